/- The program's Same (32): of two programs that are the same but for their places it tells true. Asked: they lie in cells that are not frozen. -/
import Derived.Test.YtjmlmelcppbefaaGreatDoorSg
import Derived.Test.YtjmlmelcppbefaaGreatDoorT27
import Derived.Laws.NewBlocks
namespace Go.Proofs.YtjmlmelcppbefaaGreatDoor
open Go.RowKit Go.Maps
theorem store_new {P : Program} (V : World) (v0 : Value) (ty : TypeId) (fn : Fn) (a c : Array Value) {z : Nat} (hz : V.heap.size = z) :
  (store ⟨z, 0, none⟩ (.func fn a c)).run P (V.alloc (.cells #[v0] ty)) = .ok () (V.alloc (.cells #[.func fn a c] ty)) := by
 subst hz
 have hb := Blk.new V ty [v0]
 have hc := hb.cell 0
 have hf := hb.frozen 0
 have hs : (V.alloc (.cells #[v0] ty)).setCell ⟨V.heap.size, 0, none⟩ (.func fn a c) = V.alloc (.cells #[.func fn a c] ty) := by
  rw [World.setCell_alloc_at]
  ·rfl
  ·rfl
 unfold store
 simp only [Sem.run]
 rw [show (V.alloc (.cells #[v0] ty)).cell? ⟨V.heap.size, 0, none⟩ = some v0 from hc, show (V.alloc (.cells #[v0] ty)).frozen? ⟨V.heap.size, 0, none⟩ = false from hf, hs]
 rfl
theorem step_store_blk {ops : Array Oper} {o : Oper} {a : Act} {w : World} {K : Act → World → Prop} {Q : Exit → Act → World → Prop} {E0 : Prop} {T : TypeId} {n : Nat} (hi : (Tryz.prog.info? T).map (·.size) = some n) (hgd : o.guard = none) (x y : Operand) (ho : o.op = .store T x y)
  (b : Nat) (cs C : List Value) (hx : a.eval x = .pointer (some ⟨b, 0, none⟩)) (hy : a.eval y = .agg cs.toArray) (hb : Blk w b T C) (hC : C.length = n) (hl : cs.length = n) (h1 : ∀ v ∈ cs, v.oneCell' = true) (h : K (a.put o.dst undef) (w.setCells b 0 cs)) : if Region.wanted o (yielded ops a.tmps) = true then Oper.wp Tryz.prog o a w K Q else E0 := by
 rw [if_pos (by simp [Region.wanted, hgd])]
 exact wp_store_mid T x y ho b 0 cs.toArray hx hy (hb.there (by simp [hC, hl])) (by rw [hi]; simp [hl]) (all_oneCell_toArray h1) (by simpa using h)
def NewE (w : World) (e : Ending) (w' : World) : Prop := ∃ bs be m, e = .returned (.func (.func 140) #[] #[.pointer (some ⟨bs, 0, none⟩), .pointer (some ⟨be, 0, none⟩)]) ∧ SeE w' bs be m ∧ Below w.heap.size w w' ∧ w.heap.size ≤ m
theorem pm_nil {w : World} {m : Nat} (h : w.heap[m]? = some (.map #[] 0)) : Pm w m := ⟨#[], 0, h, fun x hx => by simp at hx, fun x hx => by simp at hx⟩
theorem NewE.mk {w : World} : NewE w (.returned (.func (.func 140) #[] #[.pointer (some ⟨w.heap.size + 1, 0, none⟩), .pointer (some ⟨w.heap.size + 1 + 1, 0, none⟩)]))
   (((w.alloc (.map #[] 0)).alloc (.cells #[.map (some w.heap.size)] 197)).alloc (.cells #[.func (.func 140) #[] #[.pointer (some ⟨w.heap.size + 1, 0, none⟩), .pointer (some ⟨w.heap.size + 1 + 1, 0, none⟩)]] 163)) := by
 obtain ⟨C1, hC1⟩ : ∃ C, [Value.map (some w.heap.size)] = C := ⟨_, rfl⟩
 obtain ⟨C2, hC2⟩ : ∃ C, [Value.func (.func 140) #[] #[.pointer (some ⟨w.heap.size + 1, 0, none⟩), .pointer (some ⟨w.heap.size + 1 + 1, 0, none⟩)]] = C := ⟨_, rfl⟩
 have s1 : (w.alloc (.map #[] 0)).heap.size = w.heap.size + 1 := by simp
 have s2 : ((w.alloc (.map #[] 0)).alloc (.cells C1.toArray 197)).heap.size = w.heap.size + 1 + 1 := by simp
 refine ⟨_, _, w.heap.size, rfl, ⟨?_, ?_, ?_⟩, ?_, Nat.le_refl _⟩
 ·rw [hC1]
  have := Blk.new (w.alloc (.map #[] 0)) 197 C1
  rw [s1] at this
  exact this.alloc _
 ·rw [hC2, hC1]
  have := Blk.new ((w.alloc (.map #[] 0)).alloc (.cells C1.toArray 197)) 163 C2
  rw [s2] at this
  exact this
 ·have h0 : Pm (w.alloc (.map #[] 0)) w.heap.size := pm_nil (World.alloc_heap_new _ _)
  exact (h0.of fun b hb => (World.grownBy_alloc _ _ none).block b hb (by simp)).of fun b hb => (World.grownBy_alloc _ _ none).block b hb (by simp)
 ·exact (((Below.refl _ w).alloc (Nat.le_refl _) _).alloc (by simp) _).alloc (by simp; omega) _
set_option maxRecDepth 100000 in
theorem newE_any (w : World) : Calls Tryz.prog 106 #[] w (NewE w) := by
 have hmm := @run_makeMap Tryz.prog
 have hfin := @NewE.mk w
 have HFIN := Lib.hid hfin
 have hst := store_new (P := Tryz.prog) ((w.alloc (.map #[] 0)).alloc (.cells #[.map (some w.heap.size)] 197)) .nilFunc 163 (.func 140) #[] #[.pointer (some ⟨w.heap.size + 1, 0, none⟩), .pointer (some ⟨w.heap.size + 1 + 1, 0, none⟩)] (z := w.heap.size + 1 + 1) (by simp)
 clear hfin
 go_enter Tryz.func106, Tryz.ntmps106
 go_wp2_with fail
 go_ret
 exact HFIN.out
def NewS (w : World) (e : Ending) (w' : World) : Prop := ∃ b2 b3 b4 m2 bs be m, e = .returned (.func (.func 107) #[] #[.pointer (some ⟨b2, 0, none⟩), .pointer (some ⟨b3, 0, none⟩), .pointer (some ⟨b4, 0, none⟩)]) ∧ SeS w' b2 b3 b4 m2 bs be m ∧ Below w.heap.size w w' ∧ w.heap.size ≤ m ∧ w.heap.size ≤ m2
set_option maxRecDepth 100000 in
set_option maxHeartbeats 1000000 in
theorem newS_any (w : World) : Calls Tryz.prog 61 #[] w (NewS w) := by
 have hmm := @run_makeMap Tryz.prog
 obtain ⟨C1, hC1⟩ : ∃ C, [Value.map (some w.heap.size)] = C := ⟨_, rfl⟩
 have e1 : (#[.map (some w.heap.size)] : Array Value) = C1.toArray := by rw [← hC1]
 have s1 : (w.alloc (.map #[] 0)).heap.size = w.heap.size + 1 := by simp
 have hb0 : Below w.heap.size w ((w.alloc (.map #[] 0)).alloc (.cells #[.map (some w.heap.size)] 162)) := ((Below.refl _ w).alloc (Nat.le_refl _) _).alloc (by simp) _
 have hz0 : Blk ((w.alloc (.map #[] 0)).alloc (.cells #[.map (some w.heap.size)] 162)) (w.heap.size + 1) 162 C1 := by
  have := Blk.new (w.alloc (.map #[] 0)) 162 C1
  rw [s1] at this
  rw [e1]
  exact this
 have hp0 : Pm ((w.alloc (.map #[] 0)).alloc (.cells #[.map (some w.heap.size)] 162)) w.heap.size := by
  have h0 : Pm (w.alloc (.map #[] 0)) w.heap.size := pm_nil (World.alloc_heap_new _ _)
  exact h0.of fun b hb => (World.grownBy_alloc _ _ none).block b hb (by simp)
 have hsz0 : ((w.alloc (.map #[] 0)).alloc (.cells #[.map (some w.heap.size)] 162)).heap.size = w.heap.size + 1 + 1 := by simp
 have H0 := Lib.hid (And.intro hb0 (And.intro hz0 (And.intro hp0 (And.intro hsz0 hC1))))
 clear hb0 hz0 hp0 hsz0 s1 e1 hC1
 go_enter Tryz.func61, Tryz.ntmps61
 go_wp2_with fail
 have hcl := newE_any ((w.alloc (.map #[] 0)).alloc (.cells #[.map (some w.heap.size)] 162))
 generalize (w.alloc (.map #[] 0)).alloc (.cells #[.map (some w.heap.size)] 162) = W0 at *
 refine hcl.mono ?_
 rintro e W1 ⟨bs, be, m, rfl, hE, hb1, hm⟩
 obtain ⟨hb0, hz0, hp0, hsz0, hC1⟩ := H0.out
 obtain ⟨C3, hC3⟩ : ∃ C, [Value.func (.func 140) #[] #[.pointer (some ⟨bs, 0, none⟩), .pointer (some ⟨be, 0, none⟩)]] = C := ⟨_, rfl⟩
 obtain ⟨C4, hC4⟩ : ∃ C, [Value.func (.func 107) #[] #[.pointer (some ⟨w.heap.size + 1, 0, none⟩), .pointer (some ⟨W1.heap.size, 0, none⟩), .pointer (some ⟨W1.heap.size + 1, 0, none⟩)]] = C := ⟨_, rfl⟩
 have s3 : (W1.alloc (.cells C3.toArray 163)).heap.size = W1.heap.size + 1 := by simp
 have ob : ∀ (V : World) (o : Obj) (b : Nat), b < V.heap.size → (V.alloc o).heap[b]? = V.heap[b]? := fun V o b hb => (World.grownBy_alloc V o none).block b hb (by simp)
 have hfin : NewS w (.returned (.func (.func 107) #[] #[.pointer (some ⟨w.heap.size + 1, 0, none⟩), .pointer (some ⟨W1.heap.size, 0, none⟩), .pointer (some ⟨W1.heap.size + 1, 0, none⟩)]))
    ((W1.alloc (.cells #[.func (.func 140) #[] #[.pointer (some ⟨bs, 0, none⟩), .pointer (some ⟨be, 0, none⟩)]] 163)).alloc (.cells #[.func (.func 107) #[] #[.pointer (some ⟨w.heap.size + 1, 0, none⟩), .pointer (some ⟨W1.heap.size, 0, none⟩), .pointer (some ⟨W1.heap.size + 1, 0, none⟩)]] 117)) := by
  have hsz := hb0.size
  have hsz1 := hb1.size
  refine ⟨_, _, _, w.heap.size, bs, be, m, rfl, ⟨?_, ?_, ?_, ⟨(hE.s.alloc _).alloc _, (hE.f.alloc _).alloc _, (hE.m.of (ob _ _)).of (ob _ _)⟩, ((hp0.of fun b hb => hb1.block b hb).of (ob _ _)).of (ob _ _), by omega⟩, ?_, by omega, Nat.le_refl _⟩
  ·rw [hC1]
   exact ((hz0.below hb1).alloc _).alloc _
  ·rw [hC3]
   exact (Blk.new W1 163 C3).alloc _
  ·rw [hC4, hC3]
   have := Blk.new (W1.alloc (.cells C3.toArray 163)) 117 C4
   rwa [s3] at this
  ·exact ((hb0.trans (hb1.mono hsz)).alloc (by omega) _).alloc (by simp; omega) _
 have HFIN := Lib.hid hfin
 have hst1 := store_new (P := Tryz.prog) W1 .nilFunc 163 (.func 140) #[] #[.pointer (some ⟨bs, 0, none⟩), .pointer (some ⟨be, 0, none⟩)] (z := W1.heap.size) rfl
 have hst2 := store_new (P := Tryz.prog) (W1.alloc (.cells #[.func (.func 140) #[] #[.pointer (some ⟨bs, 0, none⟩), .pointer (some ⟨be, 0, none⟩)]] 163)) .nilFunc 117 (.func 107) #[] #[.pointer (some ⟨w.heap.size + 1, 0, none⟩), .pointer (some ⟨W1.heap.size, 0, none⟩), .pointer (some ⟨W1.heap.size + 1, 0, none⟩)] (z := W1.heap.size + 1) (by simp)
 clear hfin ob s3 hC3 hC4 hb0 hz0 hp0 hsz0 hC1 hE hb1 hm H0 hcl
 go_wp2_with fail
 go_ret
 exact HFIN.out
theorem desC_at : ∀ {l l' : List De}, l.map De.can = l'.map De.can → l.length = l'.length ∧ ∀ j, (l.getD j default).can = (l'.getD j default).can
 | [], [], _ => ⟨rfl, fun _ => rfl⟩
 | [], _ :: _, h => by simp at h
 | _ :: _, [], h => by simp at h
 | x :: r, y :: q, h => by
  simp only [List.map_cons, List.cons.injEq] at h
  obtain ⟨h1, h2⟩ := desC_at h.2
  refine ⟨by simp [h1], fun j => ?_⟩
  cases j with
  | zero => exact h.1
  | succ j => simpa using h2 j
theorem Pt.setCell {w : World} {a : Addr} (h : Pt w a) (q : Addr) (u : Value) : Pt (w.setCell q u) a := by
 obtain ⟨v, h⟩ := h
 have hc := World.cellU_cell h
 have hf := World.cellU_free h
 unfold World.cell? at hc
 unfold World.frozen? at hf
 have key : ∃ v', (w.setCell q u).cell? a = some v' ∧ (w.setCell q u).frozen? a = false := by
  unfold World.cell? World.frozen? World.setCell
  simp only [Array.getElem?_modify]
  split at hc
  ·rename_i c el fr he
   rw [he] at hf
   by_cases hq : q.block = a.block
   ·rw [if_pos hq, he]
    simp only [Option.map_some]
    by_cases hs : a.spot.isSome
    ·rw [if_pos hs] at hc
     cases hc
    ·rw [if_neg hs] at hc ⊢
     refine ⟨_, Array.getElem?_eq_getElem (xs := if q.spot.isSome then c else c.setIfInBounds q.off u) (i := a.off) ?_, hf⟩
     have := (Array.getElem?_eq_some_iff.1 hc).1
     split <;> simpa using this
   ·rw [if_neg hq, he]
    exact ⟨v, hc, hf⟩
  ·cases hc
 obtain ⟨v', h1, h2⟩ := key
 exact ⟨v', World.cellU_mk h1 h2⟩
theorem Pt.cells {a : Addr} (r : Nat) : ∀ (cs : List Value) (o : Nat) {w : World}, Pt w a → Pt (w.setCells r o cs) a
 | [], _, _, h => h
 | v :: cs, o, _, h => Pt.cells r cs (o + 1) (h.setCell ⟨r, o, none⟩ v)
theorem SQ.cells {V W : World} {m m2 : Nat} (h : SQ V m m2 W) {r : Nat} (hr : V.heap.size ≤ r) (h1 : r ≠ m) (h2 : r ≠ m2) (cs : List Value) (o : Nat) : SQ V m m2 (W.setCells r o cs) := by
 refine ⟨Kp.setCellsNew hr cs o h.1, ?_, ?_⟩
 ·obtain ⟨es, ck, g1, g2, g3⟩ := h.2.1
  refine ⟨es, ck, (heap_setCells (Ne.symm h1) cs o W).trans g1, fun x hx => ?_, g3⟩
  obtain ⟨a, b, e, pa, pb⟩ := g2 x hx
  exact ⟨a, b, e, pa.cells r cs o, pb.cells r cs o⟩
 ·obtain ⟨es, ck, g1, g2, g3⟩ := h.2.2
  refine ⟨es, ck, (heap_setCells (Ne.symm h2) cs o W).trans g1, fun x hx => ?_, g3⟩
  obtain ⟨a, b, e, pa, pb⟩ := g2 x hx
  exact ⟨a, b, e, pa.cells r cs o, pb.cells r cs o⟩
set_option maxRecDepth 100000 in
set_option maxHeartbeats 8000000 in
theorem same32_any (l l' : List De) (a a' : Option Addr) (cap cap' : Nat) (w : World) (hc : Roomy l.length cap) (h : DesL (fun _ => True) w a l) (h' : DesL (fun _ => True) w a' l') (hll : l.map De.can = l'.map De.can) :
  Calls Tryz.prog 32 #[.slice a l.length cap, .slice a' l'.length cap'] w fun e w' => e = .returned (.bool true) ∧ Below w.heap.size w w' := by
 obtain ⟨hlen, hat⟩ := desC_at hll
 have hmx : Tryz.prog.follows .mixedOrders = true := by kernel_rfl
 obtain ⟨d55, hu55, hr55⟩ := under55
 obtain ⟨N, hN⟩ : ∃ N, l.length = N := ⟨_, rfl⟩
 have hN2 : l'.length = N := by rw [← hlen, hN]
 have HA := Lib.hid (And.intro hat (And.intro h (And.intro h' (And.intro hN hN2))))
 rw [hN] at hc ⊢
 rw [hN2]
 clear h h' hll hlen hat hN hN2
 have hcl := newS_any w
 go_enter Tryz.func32, Tryz.ntmps32
 go_wp2_with fail
 refine hcl.mono ?_
 rintro e w1 ⟨b2, b3, b4, m2, bs, be, m, rfl, hS, hbw, hm, hm2⟩
 have HS := Lib.hid (And.intro hS (And.intro hbw (And.intro hm hm2)))
 have HW0 : Hid (SQ w1 m m2 w1) := Lib.hid ⟨Kp.refl w1 m m2, hS.E.m, hS.p2⟩
 clear hS hbw hm hm2 hcl
 go_wp2_with fail
 go_loopg [17] N (fun x iv wr => ∃ i : Nat, i ≤ N ∧ x = N - i ∧ iv = .int .i64 (i : Int) ∧ Hid (SQ w1 m m2 wr))
 case atStart => exact ⟨0, Nat.zero_le _, rfl, rfl, HW0⟩
 case round =>
  clear HW0
  obtain ⟨i, hi, rfl, rfl, HW⟩ := hrel
  by_cases hiN : i < N
  ·have hlt : (i : Int) < (N : Int) := by omega
   have hp0 : (0 : Int) ≤ (i : Int) := by omega
   obtain ⟨hat, hl, hl', hN, hN2⟩ := HA.out
   have hrm : (i : Int) + 1 ≤ 9223372036854775807 := by
    have h1 := hc.1
    have h2 := hc.2
    omega
   have HRM := Lib.hid (fun _ : True => hrm)
   have hdi := hat i
   obtain ⟨p, po, cs, rfl, -, hcs, hdl⟩ := hl i (by omega)
   obtain ⟨q, qo, ds, rfl, -, hds, hel⟩ := hl' i (by omega)
   generalize l.getD i default = X at hdl hdi
   generalize l'.getD i default = Y at hel hdi
   obtain ⟨k, l0, c, s, n, body⟩ := X
   obtain ⟨k', l0', c', s', n', body'⟩ := Y
   simp only [De.can, De.mk.injEq, true_and] at hdi
   obtain ⟨rfl, rfl, rfl, hbb⟩ := hdi
   have hl6 := hdl.cells.1
   have h1c := hdl.cells.2
   have hl6' := hel.cells.1
   have h1c' := hel.cells.2
   obtain ⟨xa, xcap, rfl, hrb, hsb⟩ := hdl
   obtain ⟨ya, ycap, rfl, hrb', hsb'⟩ := hel
   dsimp only at hrb hsb hrb' hsb' hcs hds hl6 h1c hl6' h1c'
   have hS1 := HS.out.1.kp HW.out
   have hkq : ∀ (W : World), SQ wr m m2 W → ∀ (b o : Nat) (v : Value), b < w.heap.size → w.cellU ⟨b, o, none⟩ = some v → W.cellU ⟨b, o, none⟩ = some v := fun W hq b o v hb hv => by
    have e1 : w1.heap[b]? = w.heap[b]? := HS.out.2.1.block b hb
    have e2 : W.heap[b]? = w1.heap[b]? := (HW.out.1.trans hq.1).block b (Nat.lt_of_lt_of_le hb HS.out.2.1.size) (by have := HS.out.2.2.1; omega) (by have := HS.out.2.2.2; omega)
    rw [← hv]
    unfold World.cellU World.cell? World.frozen?
    simp only [e1, e2]
   have hlt2 : ∀ (b o : Nat) (v : Value), w.cellU ⟨b, o, none⟩ = some v → b < w.heap.size := fun b o v hv => World.block_lt_of_cellU w hv
   have HR : Hid (∀ W, SQ wr m m2 W → W.rangeAt p (po + i * 6) [.int .i64 k, .int .i64 l0, .int .i64 c, .string s, .int .i64 n, .slice xa body.length xcap] ∧ W.rangeAt q (qo + i * 6) [.int .i64 k, .int .i64 l0', .int .i64 c', .string s, .int .i64 n, .slice ya body'.length ycap]) := Lib.hid fun W hq =>
    ⟨fun j v hv => World.cellU_cell (hkq W hq _ _ _ (hlt2 _ _ _ (hcs j v hv)) (hcs j v hv)), fun j v hv => World.cellU_cell (hkq W hq _ _ _ (hlt2 _ _ _ (hds j v hv)) (hds j v hv))⟩
   have HC : Hid (∀ W, SQ wr m m2 W → Calls Tryz.prog 107 #[.slice xa body.length xcap, .slice ya body'.length ycap, .pointer (some ⟨b2, 0, none⟩), .pointer (some ⟨b3, 0, none⟩), .pointer (some ⟨b4, 0, none⟩)] W fun e w' => e = .returned (.bool true) ∧ SQ W m m2 w') := Lib.hid fun W hq =>
    (sameS_any hbb ⟨hrb, hsb.keep fun b o v _ hv => hkq W hq b o v (hlt2 _ _ _ hv) hv⟩ ⟨hrb', hsb'.keep fun b o v _ hv => hkq W hq b o v (hlt2 _ _ _ hv) hv⟩ (hS1.kp hq))
   have hmm : wr.heap.size ≠ m ∧ wr.heap.size + 1 ≠ m ∧ wr.heap.size ≠ m2 ∧ wr.heap.size + 1 ≠ m2 := by
    obtain ⟨es, ck, g1, -⟩ := HW.out.2.1
    obtain ⟨es2, ck2, g2, -⟩ := HW.out.2.2
    have g3 := (Array.getElem?_eq_some_iff.1 g1).1
    have g4 := (Array.getElem?_eq_some_iff.1 g2).1
    exact ⟨by omega, by omega, by omega, by omega⟩
   obtain ⟨n1, hn1⟩ : ∃ n, body.length = n := ⟨_, rfl⟩
   obtain ⟨n2, hn2⟩ : ∃ n, body'.length = n := ⟨_, rfl⟩
   rw [hn1, hn2] at HR HC
   rw [hn1] at hl6 h1c
   rw [hn2] at hl6' h1c'
   obtain ⟨C1, hC1⟩ : ∃ C, [Value.int .i64 k, .int .i64 l0, .int .i64 c, .string s, .int .i64 n, .slice xa n1 xcap] = C := ⟨_, rfl⟩
   obtain ⟨C2, hC2⟩ : ∃ C, [Value.int .i64 k, .int .i64 l0', .int .i64 c', .string s, .int .i64 n, .slice ya n2 ycap] = C := ⟨_, rfl⟩
   rw [hC1] at hl6 h1c
   rw [hC2] at hl6' h1c'
   rw [hC1, hC2] at HR
   have HC12 := Lib.hid (And.intro hC1 hC2)
   have HMM := Lib.hid hmm
   have HL := Lib.hid (And.intro hl6 (And.intro h1c (And.intro hl6' h1c')))
   clear hat hl hl' hN hN2 hrm hcs hds hbb hrb hsb hrb' hsb' hS1 hkq hlt2 hn1 hn2 hC1 hC2 hl6 h1c hl6' h1c' hmm
   obtain ⟨Z, hZ⟩ : ∃ Z : List Value, [.int .i64 0, .int .i64 0, .int .i64 0, .string ⟨#[]⟩, .int .i64 0, .slice none 0 0] = Z := ⟨_, rfl⟩
   have hZ6 : Z.length = 6 := by rw [← hZ]; rfl
   have HZ := Lib.hid (And.intro hZ hZ6)
   clear hZ hZ6
   go_wp2_with fail
   refine wp_region_x [11] (SQ wr m m2) hmx ?_
   have HS0 : Hid (SQ wr m m2 wr.drew) := Lib.hid ⟨(Kp.refl wr m m2).drew, HW.out.2⟩
   refine wpX_take2 0 (v := ?v0) rfl (by kernel_rfl) (by kernel_rfl) (by kernel_rfl) (by kernel_rfl) (by kernel_rfl) (fun _ _ _ h => h) HS0.out (Or.inl ⟨by rfl, ?h0⟩) ?_
   case h0 =>
    intro W1 hS1
    clear hS1
    go_simp
    with_reducible rfl
   refine wpX_take2 1 (v := ?v1) rfl (by kernel_rfl) (by kernel_rfl) (by kernel_rfl) (by kernel_rfl) (by kernel_rfl) (fun _ _ _ h => h) HS0.out (Or.inl ⟨by rfl, ?h1⟩) ?_
   case h1 =>
    intro W1 hS1
    clear hS1
    go_simp
    with_reducible rfl
   refine wpX_take2 2 (v := ?v2) rfl (by kernel_rfl) (by kernel_rfl) (by kernel_rfl) (by kernel_rfl) (by kernel_rfl) (fun _ _ _ h => h) HS0.out (Or.inl ⟨by rfl, ?h2⟩) ?_
   case h2 =>
    intro W1 hS1
    clear hS1
    go_simp
    with_reducible rfl
   refine wpX_take2 3 (v := .agg C1.toArray) rfl (by kernel_rfl) (by kernel_rfl) (by kernel_rfl) (by kernel_rfl) (by kernel_rfl) (fun _ _ _ h => h) HS0.out (yieldsIf_load_mid (by rfl) 55 (.tmp 22) rfl p (po + i * 6) rfl C1 d55 (fun W hS => (HR.out W hS).1) hu55 hr55 (by rw [HL.out.1]; exact info55)) ?_
   refine wpX_take2 4 (v := ?v4) rfl (by kernel_rfl) (by kernel_rfl) (by kernel_rfl) (by kernel_rfl) (by kernel_rfl) (fun _ _ _ h => h) HS0.out (Or.inl ⟨by rfl, ?h4⟩) ?_
   case h4 =>
    intro W1 hS1
    clear hS1
    go_simp
    with_reducible rfl
   refine wpX_take2 5 (v := ?v5) rfl (by kernel_rfl) (by kernel_rfl) (by kernel_rfl) (by kernel_rfl) (by kernel_rfl) (fun _ _ _ h => h) HS0.out (Or.inl ⟨by rfl, ?h5⟩) ?_
   case h5 =>
    intro W1 hS1
    clear hS1
    go_simp
    with_reducible rfl
   refine wpX_take2 6 (v := ?v6) rfl (by kernel_rfl) (by kernel_rfl) (by kernel_rfl) (by kernel_rfl) (by kernel_rfl) (fun _ _ _ h => h) HS0.out (Or.inl ⟨by rfl, ?h6⟩) ?_
   case h6 =>
    intro W1 hS1
    clear hS1
    go_simp
    with_reducible rfl
   refine wpX_take2 7 (v := .agg C2.toArray) rfl (by kernel_rfl) (by kernel_rfl) (by kernel_rfl) (by kernel_rfl) (by kernel_rfl) (fun _ _ _ h => h) HS0.out (yieldsIf_load_mid (by rfl) 55 (.tmp 26) rfl q (qo + i * 6) rfl C2 d55 (fun W hS => (HR.out W hS).2) hu55 hr55 (by rw [HL.out.2.2.1]; exact info55)) ?_
   refine wpX_two 8 9 (by kernel_rfl) rfl rfl (fun K hK => ?_) (fun K hK => ?_)
   ·obtain ⟨hZ, hZ6⟩ := HZ.out
    obtain ⟨W0, hW0⟩ : ∃ W0, ((wr.alloc (.cells Z.toArray 55)).alloc (.cells Z.toArray 55)).drew = W0 := ⟨_, rfl⟩
    have hsA : SQ wr m m2 (wr.drew.alloc (.cells Z.toArray 55)) := HS0.out.alloc _
    have hsB : SQ wr m m2 W0 := by
     rw [← hW0]
     exact SQ.drew (SQ.alloc (SQ.alloc (V := wr) (W := wr) ⟨Kp.refl wr m m2, HW.out.2⟩ _) _)
    have hz1 : Blk W0 wr.heap.size 55 Z := by
     rw [← hW0]
     exact ((Blk.new wr 55 Z).alloc (.cells Z.toArray 55)).drew
    have hz2 : Blk W0 (wr.heap.size + 1) 55 Z := by
     rw [← hW0]
     have := Blk.new (wr.alloc (.cells Z.toArray 55)) 55 Z
     rw [show (wr.alloc (.cells Z.toArray 55)).heap.size = wr.heap.size + 1 by simp] at this
     exact this.drew
    go_simp
    refine hK _ _ (fun _ => hsA) ?_
    clear hK K
    refine wpX_one 9 (by kernel_rfl) rfl (fun K hK => ?_)
    go_simp
    refine hK _ _ (fun _ => hsB) ?_
    clear hK K hW0
    refine wpX_one 10 (by kernel_rfl) rfl (fun K hK => ?_)
    refine step_store_blk info55 rfl (.tmp 7) (.tmp 23) rfl wr.heap.size C1 Z rfl rfl hz1 hZ6 HL.out.1 HL.out.2.1 ?_
    have hsC : SQ wr m m2 (W0.setCells wr.heap.size 0 C1) := hsB.cells (by omega) HMM.out.1 HMM.out.2.2.1 C1 0
    have hz3 : Blk (W0.setCells wr.heap.size 0 C1) wr.heap.size 55 C1 := hz1.putAll (by rw [HL.out.1, hZ6])
    have hz4 : Blk (W0.setCells wr.heap.size 0 C1) (wr.heap.size + 1) 55 Z := hz2.of (heap_setCells (by omega) C1 0 W0)
    refine hK _ _ (fun _ => hsC) ?_
    clear hK K hz1 hz2 hsB
    generalize W0.setCells wr.heap.size 0 C1 = W1 at *
    refine wpX_one 11 (by kernel_rfl) rfl (fun K hK => ?_)
    refine step_store_blk info55 rfl (.tmp 8) (.tmp 27) rfl (wr.heap.size + 1) C2 Z rfl rfl hz4 hZ6 HL.out.2.2.1 HL.out.2.2.2 ?_
    have hsD : SQ wr m m2 (W1.setCells (wr.heap.size + 1) 0 C2) := hsC.cells (by omega) HMM.out.2.1 HMM.out.2.2.2 C2 0
    have hz5 : Blk (W1.setCells (wr.heap.size + 1) 0 C2) (wr.heap.size + 1) 55 C2 := hz4.putAll (by rw [HL.out.2.2.1, hZ6])
    have hz6 : Blk (W1.setCells (wr.heap.size + 1) 0 C2) wr.heap.size 55 C1 := hz3.of (heap_setCells (by omega) C2 0 W1)
    refine hK _ _ (fun h => by cases h) ?_
    clear hK K hz3 hz4 hsC
    generalize W1.setCells (wr.heap.size + 1) 0 C2 = W2 at *
    refine wpX_done (by kernel_rfl) ?_ _
    obtain ⟨z, hz⟩ : ∃ z, wr.heap.size = z := ⟨_, rfl⟩
    obtain ⟨z', hz'⟩ : ∃ z, (wr.heap.size + 1) = z := ⟨_, rfl⟩
    rw [hz'] at hz5
    rw [hz] at hz6
    rw [hz', hz]
    obtain ⟨hC1, hC2⟩ := HC12.out
    subst hC1 hC2
    have HF : Hid (∀ W, SQ W2 m m2 W → W.cell? ⟨z, 0, none⟩ = some (.int .i64 k) ∧ W.cell? ⟨z, 3, none⟩ = some (.string s) ∧ W.cell? ⟨z, 4, none⟩ = some (.int .i64 n) ∧ W.cell? ⟨z, 5, none⟩ = some (.slice xa n1 xcap) ∧
      W.cell? ⟨z', 0, none⟩ = some (.int .i64 k) ∧ W.cell? ⟨z', 3, none⟩ = some (.string s) ∧ W.cell? ⟨z', 4, none⟩ = some (.int .i64 n) ∧ W.cell? ⟨z', 5, none⟩ = some (.slice ya n2 ycap)) := Lib.hid fun W hq => by
     have g1 := hz6.kp2 hq.1 hsD.2.1 hsD.2.2
     have g2 := hz5.kp2 hq.1 hsD.2.1 hsD.2.2
     exact ⟨g1.cell 0, g1.cell 3, g1.cell 4, g1.cell 5, g2.cell 0, g2.cell 3, g2.cell 4, g2.cell 5⟩
    have HCC : Hid (∀ W, SQ W2 m m2 W → Calls Tryz.prog 107 #[.slice xa n1 xcap, .slice ya n2 ycap, .pointer (some ⟨b2, 0, none⟩), .pointer (some ⟨b3, 0, none⟩), .pointer (some ⟨b4, 0, none⟩)] W fun e w' => e = .returned (.bool true) ∧ SQ W2 m m2 w') := Lib.hid fun W hq => (HC.out W (hsD.trans hq)).mono fun e w' h => ⟨h.1, hq.trans h.2⟩
    have HD := Lib.hid hsD
    have HQ3 : Hid (SQ W2 m m2 W2) := Lib.hid ⟨Kp.refl W2 m m2, hsD.2⟩
    clear hsA hsD hz5 hz6 hz hz' HC HR HL HMM HZ hZ hZ6 HS0 HC12
    obtain ⟨x0, x3, x4, x5, y0, y3, y4, y5⟩ := HF.out W2 HQ3.out
    go_wp2_with fail
    refine (HCC.out W2 HQ3.out).mono ?_
    rintro e w3 ⟨rfl, hq⟩
    have HQ5 : Hid (SQ w1 m m2 w3) := Lib.hid (HW.out.trans (HD.out.trans hq))
    clear HF HCC HD HQ3 HW hq x0 x3 x4 x5 y0 y3 y4 y5
    have hrm := HRM.out trivial
    go_wp2_with fail
    go_roundg (N - (i + 1))
    case measure => omega
    case rel => exact ⟨i + 1, by omega, rfl, rfl, HQ5⟩
   ·obtain ⟨hZ, hZ6⟩ := HZ.out
    obtain ⟨W0, hW0⟩ : ∃ W0, ((wr.alloc (.cells Z.toArray 55)).alloc (.cells Z.toArray 55)).drew = W0 := ⟨_, rfl⟩
    have hsA : SQ wr m m2 (wr.drew.alloc (.cells Z.toArray 55)) := HS0.out.alloc _
    have hsB : SQ wr m m2 W0 := by
     rw [← hW0]
     exact SQ.drew (SQ.alloc (SQ.alloc (V := wr) (W := wr) ⟨Kp.refl wr m m2, HW.out.2⟩ _) _)
    have hz1 : Blk W0 wr.heap.size 55 Z := by
     rw [← hW0]
     exact ((Blk.new wr 55 Z).alloc (.cells Z.toArray 55)).drew
    have hz2 : Blk W0 (wr.heap.size + 1) 55 Z := by
     rw [← hW0]
     have := Blk.new (wr.alloc (.cells Z.toArray 55)) 55 Z
     rw [show (wr.alloc (.cells Z.toArray 55)).heap.size = wr.heap.size + 1 by simp] at this
     exact this.drew
    go_simp
    refine hK _ _ (fun _ => hsA) ?_
    clear hK K
    refine wpX_one 8 (by kernel_rfl) rfl (fun K hK => ?_)
    go_simp
    refine hK _ _ (fun _ => hsB) ?_
    clear hK K hW0
    refine wpX_one 10 (by kernel_rfl) rfl (fun K hK => ?_)
    refine step_store_blk info55 rfl (.tmp 7) (.tmp 23) rfl (wr.heap.size + 1) C1 Z rfl rfl hz2 hZ6 HL.out.1 HL.out.2.1 ?_
    have hsC : SQ wr m m2 (W0.setCells (wr.heap.size + 1) 0 C1) := hsB.cells (by omega) HMM.out.2.1 HMM.out.2.2.2 C1 0
    have hz3 : Blk (W0.setCells (wr.heap.size + 1) 0 C1) (wr.heap.size + 1) 55 C1 := hz2.putAll (by rw [HL.out.1, hZ6])
    have hz4 : Blk (W0.setCells (wr.heap.size + 1) 0 C1) wr.heap.size 55 Z := hz1.of (heap_setCells (by omega) C1 0 W0)
    refine hK _ _ (fun _ => hsC) ?_
    clear hK K hz1 hz2 hsB
    generalize W0.setCells (wr.heap.size + 1) 0 C1 = W1 at *
    refine wpX_one 11 (by kernel_rfl) rfl (fun K hK => ?_)
    refine step_store_blk info55 rfl (.tmp 8) (.tmp 27) rfl wr.heap.size C2 Z rfl rfl hz4 hZ6 HL.out.2.2.1 HL.out.2.2.2 ?_
    have hsD : SQ wr m m2 (W1.setCells wr.heap.size 0 C2) := hsC.cells (by omega) HMM.out.1 HMM.out.2.2.1 C2 0
    have hz5 : Blk (W1.setCells wr.heap.size 0 C2) wr.heap.size 55 C2 := hz4.putAll (by rw [HL.out.2.2.1, hZ6])
    have hz6 : Blk (W1.setCells wr.heap.size 0 C2) (wr.heap.size + 1) 55 C1 := hz3.of (heap_setCells (by omega) C2 0 W1)
    refine hK _ _ (fun h => by cases h) ?_
    clear hK K hz3 hz4 hsC
    generalize W1.setCells wr.heap.size 0 C2 = W2 at *
    refine wpX_done (by kernel_rfl) ?_ _
    obtain ⟨z, hz⟩ : ∃ z, (wr.heap.size + 1) = z := ⟨_, rfl⟩
    obtain ⟨z', hz'⟩ : ∃ z, wr.heap.size = z := ⟨_, rfl⟩
    rw [hz] at hz6
    rw [hz'] at hz5
    rw [hz, hz']
    obtain ⟨hC1, hC2⟩ := HC12.out
    subst hC1 hC2
    have HF : Hid (∀ W, SQ W2 m m2 W → W.cell? ⟨z, 0, none⟩ = some (.int .i64 k) ∧ W.cell? ⟨z, 3, none⟩ = some (.string s) ∧ W.cell? ⟨z, 4, none⟩ = some (.int .i64 n) ∧ W.cell? ⟨z, 5, none⟩ = some (.slice xa n1 xcap) ∧
      W.cell? ⟨z', 0, none⟩ = some (.int .i64 k) ∧ W.cell? ⟨z', 3, none⟩ = some (.string s) ∧ W.cell? ⟨z', 4, none⟩ = some (.int .i64 n) ∧ W.cell? ⟨z', 5, none⟩ = some (.slice ya n2 ycap)) := Lib.hid fun W hq => by
     have g1 := hz6.kp2 hq.1 hsD.2.1 hsD.2.2
     have g2 := hz5.kp2 hq.1 hsD.2.1 hsD.2.2
     exact ⟨g1.cell 0, g1.cell 3, g1.cell 4, g1.cell 5, g2.cell 0, g2.cell 3, g2.cell 4, g2.cell 5⟩
    have HCC : Hid (∀ W, SQ W2 m m2 W → Calls Tryz.prog 107 #[.slice xa n1 xcap, .slice ya n2 ycap, .pointer (some ⟨b2, 0, none⟩), .pointer (some ⟨b3, 0, none⟩), .pointer (some ⟨b4, 0, none⟩)] W fun e w' => e = .returned (.bool true) ∧ SQ W2 m m2 w') := Lib.hid fun W hq => (HC.out W (hsD.trans hq)).mono fun e w' h => ⟨h.1, hq.trans h.2⟩
    have HD := Lib.hid hsD
    have HQ3 : Hid (SQ W2 m m2 W2) := Lib.hid ⟨Kp.refl W2 m m2, hsD.2⟩
    clear hsA hsD hz5 hz6 hz hz' HC HR HL HMM HZ hZ hZ6 HS0 HC12
    obtain ⟨x0, x3, x4, x5, y0, y3, y4, y5⟩ := HF.out W2 HQ3.out
    go_wp2_with fail
    refine (HCC.out W2 HQ3.out).mono ?_
    rintro e w3 ⟨rfl, hq⟩
    have HQ5 : Hid (SQ w1 m m2 w3) := Lib.hid (HW.out.trans (HD.out.trans hq))
    clear HF HCC HD HQ3 HW hq x0 x3 x4 x5 y0 y3 y4 y5
    have hrm := HRM.out trivial
    go_wp2_with fail
    go_roundg (N - (i + 1))
    case measure => omega
    case rel => exact ⟨i + 1, by omega, rfl, rfl, HQ5⟩
  ·obtain rfl : i = N := by omega
   have hlt : ¬ (i : Int) < (i : Int) := by omega
   have hfin : Below w.heap.size w wr := HW.out.1.to_below HS.out.2.1 HS.out.2.1.size HS.out.2.2.1 HS.out.2.2.2
   clear HW
   go_wp2_with fail
   go_ret
   exact ⟨rfl, hfin⟩
end Go.Proofs.YtjmlmelcppbefaaGreatDoor
