/- A thread's code is read. Asked: the reader lies; the table of codes. -/
import Derived.Test.YtjbinejaagpleaaDoorRil
import Derived.Laws.BytesArg
namespace Go.Proofs.YtjbinejaagpleaaDoor
open Go.RowKit

def strOf (l : List Nat) : ByteArray := strOfNums (l.map Int.ofNat)
theorem natsB_strOf {l : List Nat} (h : ∀ x ∈ l, x < 256) : natsB (strOf l) = l := by
  unfold natsB strOf
  rw [strOfNums_data, List.map_map, List.map_map]
  conv => rhs; rw [← List.map_id l]
  apply List.map_congr_left
  intro x hx
  have := h x hx
  simp
  omega
theorem conv_str {W : World} {g off n cap : Nat} {l : List Nat} (hn : n ≤ l.length) (hc : ∀ i, i < n → W.cell? ⟨g, off + i, none⟩ = some (.int .u8 ((l.getD i 0 : Nat) : Int))) :
    (convert 28 9 (.slice (some ⟨g, off, none⟩) n cap)).run Tryd.prog W = .ok (.string (strOf (l.take n))) W := by
  refine run_convert_bytes_arg W 28 5 Tryd.underlying28 Tryd.underlying5 g off n cap ((l.take n).map Int.ofNat) (by simp; omega) (fun i hi => ?_) 9 Tryd.underlying9
  rw [hc i hi]
  have h1 : i < l.length := by omega
  simp [List.getD_eq_getElem?_getD, hi, h1]
theorem own_form {W : World} {B e size n : Nat} {v : Value} {xs : List Value} (h : W.ownsRow B e size v n xs) : ∃ a cap, v = .slice a n cap := by
  rcases h.2 with ⟨rfl, rfl⟩ | ⟨g, cap, cur, rfl, _⟩
  · exact ⟨none, 0, rfl⟩
  · exact ⟨_, cap, rfl⟩
theorem end_code {R : Ending → World → Prop} {act : Act} {W : World} {p : Nat} {c a b n : Value} (h : W.heap[p]? = some (.cells #[c, a, b, n] 51 (0, 0))) {fn : Func} {s : Tmp} (hres : fn.results = #[.cell s 51])
    (hs : act.tmps.getD s undef = .pointer (some ⟨p, 0, none⟩)) (hd : act.defers = []) (hR : R (.returned (.agg #[c, a, b, n])) W) : bodyPost Tryd.prog fn R .ret act W := by
  have e0 : W.cell? ⟨p, 0, none⟩ = some c := cell_blk h rfl
  have e1 : W.cell? ⟨p, 1, none⟩ = some a := cell_blk h rfl
  have e2 : W.cell? ⟨p, 2, none⟩ = some b := cell_blk h rfl
  have e3 : W.cell? ⟨p, 3, none⟩ = some n := cell_blk h rfl
  have hs' : act.tmps[s]?.getD undef = .pointer (some ⟨p, 0, none⟩) := by rw [← hs]; simp
  refine bodyPost_ret (v := .agg #[c, a, b, n]) ?_ hd hR
  simp [results, hres, go_sem, hs', e0, e1, e2, e3]
theorem rdLin_len : ∀ (n : Nat) (l : List Nat) (ah : Int) (is : List InsP) (ls : List Int) (r : List Nat), rdLin ah n l = some ((is, ls), r) → is.length = n ∧ ls.length = n
  | 0, l, ah, is, ls, r, h => by
    simp only [rdLin, Option.some.injEq, Prod.mk.injEq] at h
    obtain ⟨⟨rfl, rfl⟩, _⟩ := h
    exact ⟨rfl, rfl⟩
  | n + 1, l, ah, is, ls, r, h => by
    simp only [rdLin] at h
    split at h
    · cases h
    · split at h
      · cases h
      · split at h
        · cases h
        · rename_i e3
          simp only [Option.some.injEq, Prod.mk.injEq] at h
          obtain ⟨⟨rfl, rfl⟩, _⟩ := h
          obtain ⟨h4, h5⟩ := rdLin_len n _ _ _ _ _ e3
          exact ⟨by rw [List.length_cons, h4], by rw [List.length_cons, h5]⟩
/-- What reading a thread's code leaves. -/
def CPost (w : World) (b D : Nat) (R : Option (CodeP × List Nat)) (e : Ending) (w' : World) : Prop := Kp w w' b b ∧ match R with
  | none => e = .panicked [noM]
  | some (c, q) => ∃ nm u v, e = .returned (.agg #[.string nm, .int .i64 c.locals, u, v]) ∧ natsB nm = c.name ∧ nm.size ≤ 16 ∧ Rr w' b D q ∧ w'.ownsRow w.heap.size 48 4 u c.ins.length (inss c.ins) ∧ w'.ownsRow w.heap.size 3 1 v c.lines.length (i64s c.lines) ∧
      c.ins.length ≤ 65536 ∧ c.lines.length ≤ 65536
set_option maxRecDepth 100000 in
set_option maxHeartbeats 8000000 in
theorem rthread_any {w : World} {b D : Nat} {l : List Nat} (h : Rr w b D l) (hT : TabC w) :
    Calls Tryd.prog 62 #[.pointer (some ⟨b, 0, none⟩)] w (CPost w b D (rdThr l)) := by
  have hw := hT.1
  have hmf : ∀ (fn : Fn) (first cap : Array Value) (w : World), (Instr.makeFunc fn first cap).run Tryd.prog w = .ok (.func fn first cap) w := fun _ _ _ _ => rfl
  obtain ⟨R, hR⟩ : ∃ R, rdThr l = R := ⟨_, rfl⟩
  rw [hR]
  unfold rdThr at hR
  have hi0 : Is w w b D l [] := ⟨h, Kp.refl _ _ _, fun x hx => by (cases hx), hT, fun x hx => by (cases hx), h.Dw⟩
  have hi1 := ((hi0.add #[.pointer (some ⟨b, 0, none⟩)] 67).add #[.string ⟨#[]⟩, .int .i64 0, .slice none 0 0, .slice none 0 0] 51).add #[.string ⟨#[]⟩, .int .i64 0, .slice none 0 0, .slice none 0 0] 51
  simp only [List.nil_append, List.cons_append, World.size_alloc] at hi1
  have hc := rcount_any hi1.rr
  unfold rdCnt at hc
  have r0 := hi1.hl.cell 0 (k := 0) rfl rfl
  have HI1 := Lib.hid hi1
  cases hn : rdNum l with
  | none =>
    rw [hn] at hc hR
    clear h hn hi0 hi1
    go_enter Tryd.func62, Tryd.ntmps62
    go_wp2_with fail
    refine hc.mono ?_
    rintro e w2 ⟨hk, rfl⟩
    refine ⟨rfl, HI1.out.kp.trans hk, ?_⟩
    rw [← hR]
  | some nq =>
    obtain ⟨n, q⟩ := nq
    rw [hn] at hc hR
    simp only at hc hR
    have hqlt : ∀ x ∈ q, x < 256 := rdNum_rest h.lt hn
    by_cases h16 : 16 < n
    · have hni : (16 : Int) < (n : Int) := by omega
      rw [if_pos h16] at hR
      have HR := Lib.hid hR
      clear h hn hi0 hi1 hR h16 hqlt
      go_enter Tryd.func62, Tryd.ntmps62
      go_wp2_with fail
      refine hc.mono ?_
      rintro e w2 ⟨hk, rfl, hr⟩
      have HK := Lib.hid hk
      clear hk hr hc
      go_wp2_with fail
      refine (fail_any w2).mono ?_
      rintro e w3 ⟨rfl, rfl⟩
      refine ⟨rfl, HI1.out.kp.trans HK.out, ?_⟩
      rw [← HR.out]
    · have hni : ¬ (16 : Int) < (n : Int) := by omega
      have hdn : decide (16 < n) = false := decide_eq_false h16
      rw [if_neg h16] at hR
      have HR := Lib.hid hR
      clear h hn hi0 hi1 hR
      go_enter Tryd.func62, Tryd.ntmps62
      go_wp2_with fail
      refine hc.mono ?_
      rintro e w2 ⟨hk, rfl, hr⟩
      have HI2 := Lib.hid (HI1.out.go hr hk)
      have ht := take_any HI2.out.rr n
      have r1 := HI2.out.hl.cell 0 (k := 0) rfl rfl
      clear hk hr hc HI1 r0
      go_wp2_with fail
      refine ht.mono ?_
      rintro e w3 ⟨hk3, ⟨hq3, g, off, cap, rfl, hg, -, hcc, hr3⟩ | ⟨hq3, rfl⟩⟩
      · have hR2 := HR.out
        rw [if_neg (by omega)] at hR2
        have hcv := conv_str (W := w3) (cap := cap) hq3 hcc
        have hnb : natsB (strOf (q.take n)) = q.take n := natsB_strOf (fun x hx => hqlt x (List.mem_of_mem_take hx))
        have hnl : (strOf (q.take n)).size ≤ 16 := by
          rw [← natsB_len, hnb, List.length_take]
          omega
        obtain ⟨S, hS⟩ : ∃ S, strOf (q.take n) = S := ⟨_, rfl⟩
        rw [hS] at hcv hnb hnl
        have hi3 := HI2.out.go hr3 hk3
        have HR2 := Lib.hid hR2
        have HNB := Lib.hid hnb
        have c0 := hi3.hl.cell 2 (k := 0) rfl rfl
        have c0f := hi3.hl.froz 2 (k := 0) rfl
        have hset := hi3.set 2 0 (w.heap.size + 1 + 1) rfl (by omega) (by
          intro k x hx e
          match k, hx with
          | 0, hx => (obtain rfl := Option.some.inj hx; simp at e; omega)
          | 1, hx => (obtain rfl := Option.some.inj hx; simp at e)
          | 2, hx => rfl) (.string S)
        simp only [List.set_cons_succ, List.set_cons_zero, List.setIfInBounds_toArray] at hset
        have HI4 := Lib.hid hset
        have r4 := HI4.out.hl.cell 0 (k := 0) rfl rfl
        have hc4 := rcount_any HI4.out.rr
        obtain ⟨T, hT4⟩ : ∃ T, rdCnt (q.drop n) = T := ⟨_, rfl⟩
        rw [hT4] at hc4 hR2
        have HR3 := Lib.hid hR2
        have hne4 := hk3.size
        clear hS hR2 hnb hi3 hset HI2 ht hk3 hr3 hcc hT4 HR HR2 hg r1
        go_wp2_with fail
        refine hc4.mono ?_
        rintro e w4 ⟨hk4, hm4⟩
        cases T with
        | none =>
          obtain rfl := hm4
          refine ⟨rfl, HI4.out.kp.trans hk4, ?_⟩
          rw [← HR3.out]
        | some lr =>
          obtain ⟨lo, q1⟩ := lr
          obtain ⟨rfl, hr4⟩ := hm4
          have hi4 := HI4.out.go hr4 hk4
          have d0 := hi4.hl.cell 2 (k := 1) rfl rfl
          have d0f := hi4.hl.froz 2 (k := 1) rfl
          have hset := hi4.set 2 1 (w.heap.size + 1 + 1) rfl (by omega) (by
            intro k x hx e
            match k, hx with
            | 0, hx => (obtain rfl := Option.some.inj hx; simp at e; try omega)
            | 1, hx => (obtain rfl := Option.some.inj hx; simp at e; try omega)
            | 2, hx => rfl) (.int .i64 lo)
          simp only [List.set_cons_succ, List.set_cons_zero, List.setIfInBounds_toArray] at hset
          have hi5 := hset.add #[.int .i64 0] 3
          have hsz4 : (w4.setCell ⟨w.heap.size + 1 + 1, 1, none⟩ (.int .i64 lo)).heap.size = w4.heap.size := by simp [World.setCell]
          have hgt : w.heap.size + 3 ≤ w4.heap.size := hi4.hl.lt (x := (w.heap.size + 1 + 1, .cells #[.string S, .int .i64 0, .slice none 0 0, .slice none 0 0] 51 (0, 0))) (by simp)
          simp only [List.cons_append, List.nil_append, hsz4] at hi5
          have r5 := hi5.hl.cell 0 (k := 0) rfl rfl
          have hlx : Lx w ((w4.setCell ⟨w.heap.size + 1 + 1, 1, none⟩ (.int .i64 lo)).alloc (.cells #[.int .i64 0] 3)) b D (w4.heap.size + 1) w.heap.size w4.heap.size (w.heap.size + 1 + 1) (w.heap.size + 1) q1 0 S lo (.slice none 0 0) (.slice none 0 0) [] :=
            ⟨hi5.sub (fun x hx => by simp at hx ⊢; rcases hx with h | h | h | h <;> simp [h]), World.ownsRow_nil _ _ _ _, by omega, by simp [World.setCell], by omega, by omega⟩
          have hri := readIns_any hlx hw
          clear r4 hc4 hr4 hk4 hi4 hset hi5 hlx HI4 c0 c0f
          go_wp2_with fail
          refine hri.mono ?_
          rintro e w5 hpost
          have hR3 := HR3.out
          cases hn1 : rdNum q1 with
          | none =>
            rw [hn1] at hpost hR3
            simp only at hpost hR3
            obtain ⟨rfl, hk5⟩ := hpost
            refine ⟨rfl, hk5, ?_⟩
            rw [← hR3]
          | some nq =>
            obtain ⟨m, q2⟩ := nq
            rw [hn1] at hpost hR3
            simp only at hpost hR3
            by_cases hm6 : 65536 < m
            · rw [if_pos hm6] at hpost hR3
              obtain ⟨rfl, hk5⟩ := hpost
              refine ⟨rfl, hk5, ?_⟩
              rw [← hR3]
            · rw [if_neg hm6] at hpost hR3
              unfold IPost at hpost
              cases hl1 : rdLin 0 m q2 with
              | none =>
                rw [hl1] at hpost hR3
                simp only at hpost hR3
                obtain ⟨rfl, hk5⟩ := hpost
                refine ⟨rfl, hk5, ?_⟩
                rw [← hR3]
              | some il =>
                obtain ⟨⟨is, ls⟩, q3⟩ := il
                rw [hl1] at hpost hR3
                simp only at hpost hR3
                obtain ⟨u, v, line, rfl, hlx, hou⟩ := hpost
                have hbl : is.length ≤ 65536 ∧ ls.length ≤ 65536 := by
                  have h1 := rdLin_len m q2 0 is ls q3 hl1
                  omega
                have hBW := hlx.BW
                have hov := hlx.ow
                have HBL := Lib.hid hbl
                obtain ⟨ua, ucap, rfl⟩ := own_form hou
                obtain ⟨va, vcap, rfl⟩ := own_form hov
                have HR4 := Lib.hid hR3
                have HI6 := Lib.hid hlx.is
                have e2 := hlx.is.hl.cell 2 (k := 2) rfl rfl
                have e2f := hlx.is.hl.froz 2 (k := 2) rfl
                have hset := hlx.is.set 2 2 (w.heap.size + 1 + 1) rfl (by omega) (by
                  intro k x hx e
                  match k, hx with
                  | 0, hx => (obtain rfl := Option.some.inj hx; simp at e; try omega)
                  | 1, hx => (obtain rfl := Option.some.inj hx; simp at e; try omega)
                  | 2, hx => rfl
                  | 3, hx => (obtain rfl := Option.some.inj hx; simp at e; try omega)) (.slice ua is.length ucap)
                simp only [List.set_cons_succ, List.set_cons_zero, List.setIfInBounds_toArray] at hset
                have hou2 := own_set1 (b := w.heap.size + 1 + 1) (j := 2) (u := .slice ua is.length ucap) hou (by omega)
                have hov2 := own_set1 (b := w.heap.size + 1 + 1) (j := 2) (u := .slice ua is.length ucap) hov (by omega)
                have HS := Lib.hid hset
                have HOU := Lib.hid hou2
                have HOV := Lib.hid hov2
                clear hR3 HR3 hn1 hl1 hlx hou hov hset hou2 hov2 hri hm6 HI6
                have t0 := HS.out.hl.cell 2 (k := 0) rfl rfl
                have t1 := HS.out.hl.cell 2 (k := 1) rfl rfl
                have t2 := HS.out.hl.cell 2 (k := 2) rfl rfl
                have t3 := HS.out.hl.cell 2 (k := 3) rfl rfl
                have p0 := HS.out.hl.cell 3 (k := 0) rfl rfl
                have p1 := HS.out.hl.cell 3 (k := 1) rfl rfl
                have p2 := HS.out.hl.cell 3 (k := 2) rfl rfl
                have p3 := HS.out.hl.cell 3 (k := 3) rfl rfl
                have f0 := HS.out.hl.froz 3 (k := 0) rfl
                have f1 := HS.out.hl.froz 3 (k := 1) rfl
                have f2 := HS.out.hl.froz 3 (k := 2) rfl
                have f3 := HS.out.hl.froz 3 (k := 3) rfl
                go_wp2
                have y0 := HS.out.set 3 0 (w.heap.size + 1) rfl (by omega) (by
                  intro k x hx e
                  match k, hx with
                  | 0, hx => (obtain rfl := Option.some.inj hx; simp at e; try omega)
                  | 1, hx => (obtain rfl := Option.some.inj hx; simp at e; try omega)
                  | 2, hx => (obtain rfl := Option.some.inj hx; simp at e; try omega)
                  | 3, hx => rfl) (.string S)
                simp only [List.set_cons_succ, List.set_cons_zero, List.setIfInBounds_toArray] at y0
                have y1 := y0.set 3 1 (w.heap.size + 1) rfl (by omega) (by
                  intro k x hx e
                  match k, hx with
                  | 0, hx => (obtain rfl := Option.some.inj hx; simp at e; try omega)
                  | 1, hx => (obtain rfl := Option.some.inj hx; simp at e; try omega)
                  | 2, hx => (obtain rfl := Option.some.inj hx; simp at e; try omega)
                  | 3, hx => rfl) (.int .i64 lo)
                simp only [List.set_cons_succ, List.set_cons_zero, List.setIfInBounds_toArray] at y1
                have y2 := y1.set 3 2 (w.heap.size + 1) rfl (by omega) (by
                  intro k x hx e
                  match k, hx with
                  | 0, hx => (obtain rfl := Option.some.inj hx; simp at e; try omega)
                  | 1, hx => (obtain rfl := Option.some.inj hx; simp at e; try omega)
                  | 2, hx => (obtain rfl := Option.some.inj hx; simp at e; try omega)
                  | 3, hx => rfl) (.slice ua is.length ucap)
                simp only [List.set_cons_succ, List.set_cons_zero, List.setIfInBounds_toArray] at y2
                have y3 := y2.set 3 3 (w.heap.size + 1) rfl (by omega) (by
                  intro k x hx e
                  match k, hx with
                  | 0, hx => (obtain rfl := Option.some.inj hx; simp at e; try omega)
                  | 1, hx => (obtain rfl := Option.some.inj hx; simp at e; try omega)
                  | 2, hx => (obtain rfl := Option.some.inj hx; simp at e; try omega)
                  | 3, hx => rfl) (.slice va ls.length vcap)
                simp only [List.set_cons_succ, List.set_cons_zero, List.setIfInBounds_toArray] at y3
                have hu4 := ownsRow_base (b' := w.heap.size) (own_set1 (b := w.heap.size + 1) (j := 3) (u := .slice va ls.length vcap) (own_set1 (b := w.heap.size + 1) (j := 2) (u := .slice ua is.length ucap) (own_set1 (b := w.heap.size + 1) (j := 1) (u := .int .i64 lo) (own_set1 (b := w.heap.size + 1) (j := 0) (u := .string S) HOU.out (by omega)) (by omega)) (by omega)) (by omega)) (by omega)
                have hv4 := ownsRow_base (b' := w.heap.size) (own_set1 (b := w.heap.size + 1) (j := 3) (u := .slice va ls.length vcap) (own_set1 (b := w.heap.size + 1) (j := 2) (u := .slice ua is.length ucap) (own_set1 (b := w.heap.size + 1) (j := 1) (u := .int .i64 lo) (own_set1 (b := w.heap.size + 1) (j := 0) (u := .string S) HOV.out (by omega)) (by omega)) (by omega)) (by omega)) (by omega)
                refine end_code (p := w.heap.size + 1) (y3.hl (w.heap.size + 1, _) (List.mem_of_getElem? (i := 3) rfl)) rfl rfl rfl ⟨y3.kp, ?_⟩
                rw [← HR4.out]
                exact ⟨S, .slice ua is.length ucap, .slice va ls.length vcap, rfl, HNB.out, hnl, y3.rr, hu4, hv4, HBL.out.1, HBL.out.2⟩
      · have hR2 := HR.out
        rw [if_pos hq3] at hR2
        refine ⟨rfl, HI2.out.kp.trans hk3, ?_⟩
        rw [← hR2]
end Go.Proofs.YtjbinejaagpleaaDoor
