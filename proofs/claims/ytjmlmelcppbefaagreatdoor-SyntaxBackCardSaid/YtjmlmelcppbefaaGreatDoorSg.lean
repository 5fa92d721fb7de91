/- The program's Same, its closure on blocks (107): of two blocks that are the same it tells true, whatever it saw. Asked: they lie in cells that are not frozen. -/
import Derived.Test.YtjmlmelcppbefaaGreatDoorSe
import Derived.Test.YtjmlmelcppbefaaGreatDoorX1
import Derived.Test.YtjmlmelcppbefaaGreatDoorV2
namespace Go.Proofs.YtjmlmelcppbefaaGreatDoor
open Go.RowKit Go.Maps
def SlU (w : World) (a : Option Addr) (cap : Nat) (l : List St) : Prop := Roomy l.length cap ∧ StsL (fun _ => True) w a 0 l
theorem SlU.row {w : World} {a : Option Addr} {cap : Nat} {l : List St} (h : SlU w a cap l) {j : Nat} (hj : j < l.length) : ∃ b off, a = some ⟨b, off, none⟩ ∧ StU w b (off + j * 25) (l.getD j default) := by
 obtain ⟨b, off, cs, e, -, h1, h2⟩ := h.2.atU j hj
 exact ⟨b, off, e, cs, fun t v hv => by have := h1 t v hv; rwa [Nat.zero_add] at this, h2⟩
theorem StU.all {w : World} {b off : Nat} {k l0 c : Int} {s t : ByteArray} {x y : Ex} {body els : List St} {id sl ot : Int} {lo : Bool} (h : StU w b off (.mk k l0 c s t x y body els id sl ot lo)) :
  Pt w ⟨b, off, none⟩ ∧ w.cellU ⟨b, off, none⟩ = some (.int .i64 k) ∧ w.cellU ⟨b, off + 3, none⟩ = some (.string s) ∧ w.cellU ⟨b, off + 4, none⟩ = some (.string t) ∧ ExU w b (off + 5) x ∧ ExU w b (off + 12) y ∧
   (∃ a cap, w.cellU ⟨b, off + 19, none⟩ = some (.slice a body.length cap) ∧ SlU w a cap body) ∧ ∃ a cap, w.cellU ⟨b, off + 20, none⟩ = some (.slice a els.length cap) ∧ SlU w a cap els := by
 obtain ⟨cs, h1, h2⟩ := h
 unfold StL at h2
 obtain ⟨cx, cy, a, a', cap, cap', rfl, hx, hy, h3, h4, h5, h6⟩ := h2
 have lx := hx.cells.1
 have ly := hy.cells.1
 refine ⟨⟨_, h1 0 _ rfl⟩, h1 0 _ rfl, h1 3 _ rfl, h1 4 _ rfl, ⟨cx, fun j v hv => ?_, hx⟩, ⟨cy, fun j v hv => ?_, hy⟩, ⟨a, cap, ?_, h3, h4⟩, a', cap', ?_, h5, h6⟩
 ·have hj : j < 7 := by
   have := (List.getElem?_eq_some_iff.1 hv).1
   omega
  have := h1 (5 + j) v (by
   rw [show 5 + j = j + 5 by omega]
   simp only [List.getElem?_cons_succ]
   rw [List.getElem?_append_left (by omega)]
   exact hv)
  rwa [← Nat.add_assoc] at this
 ·have hj : j < 7 := by
   have := (List.getElem?_eq_some_iff.1 hv).1
   omega
  have := h1 (12 + j) v (by
   rw [show 12 + j = (j + 7) + 5 by omega]
   simp only [List.getElem?_cons_succ]
   rw [List.getElem?_append_right (by omega), List.getElem?_append_left (by omega), show j + 7 - cx.length = j by omega]
   exact hv)
  rwa [← Nat.add_assoc] at this
 ·exact h1 19 _ (by
   simp only [List.getElem?_cons_succ]
   rw [List.getElem?_append_right (by omega), List.getElem?_append_right (by omega), show 14 - cx.length - cy.length = 0 by omega]
   rfl)
 ·exact h1 20 _ (by
   simp only [List.getElem?_cons_succ]
   rw [List.getElem?_append_right (by omega), List.getElem?_append_right (by omega), show 15 - cx.length - cy.length = 1 by omega]
   rfl)
theorem cellU_kp2 {w w' : World} {m m2 : Nat} (hk : Kp w w' m m2) (h1 : Pm w m) (h2 : Pm w m2) (b o : Nat) (v : Value) (h : w.cellU ⟨b, o, none⟩ = some v) : w'.cellU ⟨b, o, none⟩ = some v := by
 obtain ⟨es, ck, h1, -⟩ := h1
 obtain ⟨es2, ck2, h2, -⟩ := h2
 have hp : Pt w ⟨b, o, none⟩ := ⟨v, h⟩
 have he := hk.block b hp.lt (hp.ne h1) (hp.ne h2)
 rw [← h]
 unfold World.cellU World.cell? World.frozen?
 simp only [he]
theorem ExU.kp2 {w w' : World} {b off m m2 : Nat} {x : Ex} (h : ExU w b off x) (hk : Kp w w' m m2) (h1 : Pm w m) (h2 : Pm w m2) : ExU w' b off x := by
 obtain ⟨cs, g1, g2⟩ := h
 exact ⟨cs, fun t v hv => cellU_kp2 hk h1 h2 _ _ _ (g1 t v hv), g2.keep fun b o v _ hv => cellU_kp2 hk h1 h2 b o v hv⟩
theorem StU.kp2 {w w' : World} {b off m m2 : Nat} {x : St} (h : StU w b off x) (hk : Kp w w' m m2) (h1 : Pm w m) (h2 : Pm w m2) : StU w' b off x := by
 obtain ⟨cs, g1, g2⟩ := h
 exact ⟨cs, fun t v hv => cellU_kp2 hk h1 h2 _ _ _ (g1 t v hv), g2.keep fun b o v _ hv => cellU_kp2 hk h1 h2 b o v hv⟩
theorem SlU.kp2 {w w' : World} {a : Option Addr} {cap m m2 : Nat} {l : List St} (h : SlU w a cap l) (hk : Kp w w' m m2) (h1 : Pm w m) (h2 : Pm w m2) : SlU w' a cap l :=
 ⟨h.1, h.2.keep fun b o v _ hv => cellU_kp2 hk h1 h2 b o v hv⟩
theorem Blk.kp2 {w w' : World} {b m m2 : Nat} {ty : TypeId} {C : List Value} (h : Blk w b ty C) (hk : Kp w w' m m2) (h1 : Pm w m) (h2 : Pm w m2) : Blk w' b ty C := by
 obtain ⟨es, ck, h1, -⟩ := h1
 obtain ⟨es2, ck2, h2, -⟩ := h2
 unfold Blk at h
 exact Blk.kp (show Blk w b ty C from h) hk (fun e => by subst e; rw [h] at h1; cases h1) (fun e => by subst e; rw [h] at h2; cases h2)
structure SeS (w : World) (b2 b3 b4 m2 bs be m : Nat) : Prop where
 s : Blk w b2 162 [.map (some m2)]
 e : Blk w b3 163 [.func (.func 140) #[] #[.pointer (some ⟨bs, 0, none⟩), .pointer (some ⟨be, 0, none⟩)]]
 f : Blk w b4 117 [.func (.func 107) #[] #[.pointer (some ⟨b2, 0, none⟩), .pointer (some ⟨b3, 0, none⟩), .pointer (some ⟨b4, 0, none⟩)]]
 E : SeE w bs be m
 p2 : Pm w m2
 ne : m ≠ m2
def SQ (V : World) (m m2 : Nat) (W : World) : Prop := Kp V W m m2 ∧ Pm W m ∧ Pm W m2
theorem SQ.trans {V W X : World} {m m2 : Nat} (h : SQ V m m2 W) (h2 : SQ W m m2 X) : SQ V m m2 X := ⟨h.1.trans h2.1, h2.2⟩
theorem SQ.drew {V W : World} {m m2 : Nat} (h : SQ V m m2 W) : SQ V m m2 W.drew := ⟨h.1.drew, h.2.1, h.2.2⟩
theorem SQ.drewN {V W : World} {m m2 : Nat} (h : SQ V m m2 W) (n : Nat) : SQ V m m2 (W.drewN n) := ⟨h.1.drewN n, h.2.1, h.2.2⟩
theorem SQ.alloc {V W : World} {m m2 : Nat} (h : SQ V m m2 W) (o : Obj) : SQ V m m2 (W.alloc o) :=
 ⟨h.1.alloc o, h.2.1.of fun b hb => (World.grownBy_alloc W o none).block b hb (by simp), h.2.2.of fun b hb => (World.grownBy_alloc W o none).block b hb (by simp)⟩
theorem SeS.kp {w w' : World} {b2 b3 b4 m2 bs be m : Nat} (h : SeS w b2 b3 b4 m2 bs be m) (hq : SQ w m m2 w') : SeS w' b2 b3 b4 m2 bs be m :=
 ⟨h.s.kp2 hq.1 h.E.m h.p2, h.e.kp2 hq.1 h.E.m h.p2, h.f.kp2 hq.1 h.E.m h.p2, ⟨h.E.s.kp2 hq.1 h.E.m h.p2, h.E.f.kp2 hq.1 h.E.m h.p2, hq.2.1⟩, hq.2.2, h.ne⟩
theorem SeS.ofE {w w' : World} {b2 b3 b4 m2 bs be m : Nat} (h : SeS w b2 b3 b4 m2 bs be m) (hk : Kp w w' m m) (hp : Pm w' m) : SQ w m m2 w' := by
 obtain ⟨es, ck, hm, -⟩ := h.E.m
 exact ⟨hk.widen, hp, h.p2.kp hk (Ne.symm h.ne) hm⟩
theorem SeS.ofS {w w' : World} {b2 b3 b4 m2 bs be m : Nat} (h : SeS w b2 b3 b4 m2 bs be m) (hk : Kp w w' m2 m2) (hp : Pm w' m2) : SQ w m m2 w' := by
 obtain ⟨es, ck, hm, -⟩ := h.p2
 exact ⟨hk.widen.flip, h.E.m.kp hk h.ne hm, hp⟩
theorem stC_inj {k l0 c k' l0' c' : Int} {s t s' t' : ByteArray} {x y x' y' : Ex} {body els body' els' : List St} {id sl ot id' sl' ot' : Int} {lo lo' : Bool} (h : St.can (.mk k l0 c s t x y body els id sl ot lo) = St.can (.mk k' l0' c' s' t' x' y' body' els' id' sl' ot' lo')) :
  k = k' ∧ s = s' ∧ t = t' ∧ exC x = exC x' ∧ exC y = exC y' ∧ St.cans body = St.cans body' ∧ St.cans els = St.cans els' := by
 simp only [St.can, St.mk.injEq, true_and, and_true] at h
 exact h
theorem cans_at : ∀ {l l' : List St}, St.cans l = St.cans l' → l.length = l'.length ∧ ∀ j, (l.getD j default).can = (l'.getD j default).can
 | [], [], _ => ⟨rfl, fun _ => rfl⟩
 | [], _ :: _, h => by simp [St.cans] at h
 | _ :: _, [], h => by simp [St.cans] at h
 | x :: r, y :: q, h => by
  simp only [St.cans, List.cons.injEq] at h
  obtain ⟨h1, h2⟩ := cans_at h.2
  refine ⟨by simp [h1], fun j => ?_⟩
  cases j with
  | zero => exact h.1
  | succ j => simpa using h2 j
def SamS (f : Nat) : Prop := ∀ (l l' : List St) (a : Option Addr) (cap : Nat) (a' : Option Addr) (cap' : Nat) (w : World) (b2 b3 b4 m2 bs be m : Nat), SizeOf.sizeOf l < f → St.cans l = St.cans l' → SlU w a cap l → SlU w a' cap' l' → SeS w b2 b3 b4 m2 bs be m →
 Calls Tryz.prog 107 #[.slice a l.length cap, .slice a' l'.length cap', .pointer (some ⟨b2, 0, none⟩), .pointer (some ⟨b3, 0, none⟩), .pointer (some ⟨b4, 0, none⟩)] w fun e w' => e = .returned (.bool true) ∧ SQ w m m2 w'
set_option maxRecDepth 100000 in
set_option maxHeartbeats 8000000 in
theorem sameS_step {f : Nat} (ih : SamS f) : SamS (f + 1) := by
 intro l l' a cap a' cap' w b2 b3 b4 m2 bs be m hf hll hl hl' hS
 obtain ⟨hlen, hat⟩ := cans_at hll
 have hmx : Tryz.prog.follows .mixedOrders = true := by kernel_rfl
 obtain ⟨g0, g1, KK⟩ := two166
 have hroom := hl.1
 obtain ⟨N, hN⟩ : ∃ N, l.length = N := ⟨_, rfl⟩
 have hN2 : l'.length = N := by rw [← hlen, hN]
 have HW0 : Hid (SQ w m m2 w) := Lib.hid ⟨Kp.refl w m m2, hS.E.m, hS.p2⟩
 have HA := Lib.hid (And.intro hat (And.intro hl (And.intro hl' (And.intro hS (And.intro hN (And.intro hN2 hf))))))
 rw [hN] at hroom ⊢
 rw [hN2]
 clear hf hll hl hl' hS hlen hat hN hN2
 go_enter Tryz.func107, Tryz.ntmps107
 go_wp2_with fail
 go_loopg [20] N (fun x iv wr => ∃ i : Nat, i ≤ N ∧ x = N - i ∧ iv = .int .i64 (i : Int) ∧ Hid (SQ w m m2 wr))
 case atStart => exact ⟨0, Nat.zero_le _, rfl, rfl, HW0⟩
 case round =>
  clear HW0
  obtain ⟨i, hi, rfl, rfl, HW⟩ := hrel
  by_cases hiN : i < N
  ·have hlt : (i : Int) < (N : Int) := by omega
   have hp0 : (0 : Int) ≤ (i : Int) := by omega
   obtain ⟨hat, hl, hl', hS, hN, hN2, hf⟩ := HA.out
   have hrm : (i : Int) + 1 ≤ 9223372036854775807 := by
    have h1 := hroom.1
    have h2 := hroom.2
    omega
   have HRM := Lib.hid (fun _ : True => hrm)
   obtain ⟨p, po, rfl, hx⟩ := hl.row (j := i) (by omega)
   obtain ⟨q, qo, rfl, hy⟩ := hl'.row (j := i) (by omega)
   have hxy := hat i
   have hszi := size_at (l := l) (i := i) (s := l.getD i default) (by rw [List.getD_eq_getElem?_getD, List.getElem?_eq_getElem (by omega), Option.getD_some])
   generalize l.getD i default = X at hx hxy hszi
   generalize l'.getD i default = Y at hy hxy
   obtain ⟨k, l0, c, s, t, x, y, body, els, id, sl, ot, lo⟩ := X
   obtain ⟨k', l0', c', s', t', x', y', body', els', id', sl', ot', lo'⟩ := Y
   obtain ⟨rfl, rfl, rfl, hxx, hyy, hbb, hee⟩ := stC_inj hxy
   obtain ⟨hz1, hz2⟩ := body_lt k l0 c s t x y body els id sl ot lo
   have hS1 := hS.kp HW.out
   have hx1 := hx.kp2 HW.out.1 hS.E.m hS.p2
   have hy1 := hy.kp2 HW.out.1 hS.E.m hS.p2
   obtain ⟨hpx, x0, x3, x4, xe, xi, ⟨xa, xcap, x19, xb⟩, xa2, xcap2, x20, xb2⟩ := hx1.all
   obtain ⟨hpy, y0, y3, y4, ye, yi, ⟨ya, ycap, y19, yb⟩, ya2, ycap2, y20, yb2⟩ := hy1.all
   have hlb := (cans_at hbb).1
   have hle := (cans_at hee).1
   have HF : Hid (∀ W, SQ wr m m2 W → W.cell? ⟨p, po + i * 25, none⟩ = some (.int .i64 k) ∧ W.cell? ⟨p, po + i * 25 + 3, none⟩ = some (.string s) ∧ W.cell? ⟨p, po + i * 25 + 4, none⟩ = some (.string t) ∧
     W.cell? ⟨q, qo + i * 25, none⟩ = some (.int .i64 k) ∧ W.cell? ⟨q, qo + i * 25 + 3, none⟩ = some (.string s) ∧ W.cell? ⟨q, qo + i * 25 + 4, none⟩ = some (.string t) ∧ W.cell? ⟨b3, 0, none⟩ = some (.func (.func 140) #[] #[.pointer (some ⟨bs, 0, none⟩), .pointer (some ⟨be, 0, none⟩)])) := Lib.hid fun W hq => by
    have hk := fun b o v h => World.cellU_cell (cellU_kp2 hq.1 hS1.E.m hS1.p2 b o v h)
    exact ⟨hk _ _ _ x0, hk _ _ _ x3, hk _ _ _ x4, hk _ _ _ y0, hk _ _ _ y3, hk _ _ _ y4, by simpa using (hS1.kp hq).e.cell 0⟩
   have HG : Hid (∀ W, SQ wr m m2 W → W.cell? ⟨p, po + i * 25 + 19, none⟩ = some (.slice xa body.length xcap) ∧ W.cell? ⟨p, po + i * 25 + 20, none⟩ = some (.slice xa2 els.length xcap2) ∧
     W.cell? ⟨q, qo + i * 25 + 19, none⟩ = some (.slice ya body'.length ycap) ∧ W.cell? ⟨q, qo + i * 25 + 20, none⟩ = some (.slice ya2 els'.length ycap2) ∧ W.cell? ⟨b4, 0, none⟩ = some (.func (.func 107) #[] #[.pointer (some ⟨b2, 0, none⟩), .pointer (some ⟨b3, 0, none⟩), .pointer (some ⟨b4, 0, none⟩)])) := Lib.hid fun W hq => by
    have hk := fun b o v h => World.cellU_cell (cellU_kp2 hq.1 hS1.E.m hS1.p2 b o v h)
    exact ⟨hk _ _ _ x19, hk _ _ _ x20, hk _ _ _ y19, hk _ _ _ y20, by simpa using (hS1.kp hq).f.cell 0⟩
   have HC1 : Hid (∀ W, SQ wr m m2 W → Calls Tryz.prog 140 #[.pointer (some ⟨p, po + i * 25 + 5, none⟩), .pointer (some ⟨q, qo + i * 25 + 5, none⟩), .pointer (some ⟨bs, 0, none⟩), .pointer (some ⟨be, 0, none⟩)] W fun e w' => e = .returned (.bool true) ∧ SQ wr m m2 w') := Lib.hid fun W hq =>
    (sameE_any hxx (xe.kp2 hq.1 hS1.E.m hS1.p2) (ye.kp2 hq.1 hS1.E.m hS1.p2) (hS1.kp hq).E).mono fun e w' h => ⟨h.1, hq.trans ((hS1.kp hq).ofE h.2.1 h.2.2)⟩
   have HC2 : Hid (∀ W, SQ wr m m2 W → Calls Tryz.prog 140 #[.pointer (some ⟨p, po + i * 25 + 12, none⟩), .pointer (some ⟨q, qo + i * 25 + 12, none⟩), .pointer (some ⟨bs, 0, none⟩), .pointer (some ⟨be, 0, none⟩)] W fun e w' => e = .returned (.bool true) ∧ SQ wr m m2 w') := Lib.hid fun W hq =>
    (sameE_any hyy (xi.kp2 hq.1 hS1.E.m hS1.p2) (yi.kp2 hq.1 hS1.E.m hS1.p2) (hS1.kp hq).E).mono fun e w' h => ⟨h.1, hq.trans ((hS1.kp hq).ofE h.2.1 h.2.2)⟩
   have HC3 : Hid (∀ W, SQ wr m m2 W → Calls Tryz.prog 107 #[.slice xa body.length xcap, .slice ya body'.length ycap, .pointer (some ⟨b2, 0, none⟩), .pointer (some ⟨b3, 0, none⟩), .pointer (some ⟨b4, 0, none⟩)] W fun e w' => e = .returned (.bool true) ∧ SQ wr m m2 w') := Lib.hid fun W hq =>
    (ih body body' xa xcap ya ycap W b2 b3 b4 m2 bs be m (by omega) hbb (xb.kp2 hq.1 hS1.E.m hS1.p2) (yb.kp2 hq.1 hS1.E.m hS1.p2) (hS1.kp hq)).mono fun e w' h => ⟨h.1, hq.trans h.2⟩
   have HC4 : Hid (∀ W, SQ wr m m2 W → Calls Tryz.prog 107 #[.slice xa2 els.length xcap2, .slice ya2 els'.length ycap2, .pointer (some ⟨b2, 0, none⟩), .pointer (some ⟨b3, 0, none⟩), .pointer (some ⟨b4, 0, none⟩)] W fun e w' => e = .returned (.bool true) ∧ SQ wr m m2 w') := Lib.hid fun W hq =>
    (ih els els' xa2 xcap2 ya2 ycap2 W b2 b3 b4 m2 bs be m (by omega) hee (xb2.kp2 hq.1 hS1.E.m hS1.p2) (yb2.kp2 hq.1 hS1.E.m hS1.p2) (hS1.kp hq)).mono fun e w' h => ⟨h.1, hq.trans h.2⟩
   have HP : Hid (∀ W, SQ wr m m2 W → Pt W ⟨p, po + i * 25, none⟩ ∧ Pt W ⟨q, qo + i * 25, none⟩ ∧ Pm W m2 ∧ SeS W b2 b3 b4 m2 bs be m ∧ W.cell? ⟨b2, 0, none⟩ = some (.map (some m2))) := Lib.hid fun W hq => by
    have h1 := (hx1.kp2 hq.1 hS1.E.m hS1.p2).all.1
    have h2 := (hy1.kp2 hq.1 hS1.E.m hS1.p2).all.1
    exact ⟨h1, h2, hq.2.2, hS1.kp hq, by simpa using (hS1.kp hq).s.cell 0⟩
   obtain ⟨n1, hn1⟩ : ∃ n, body.length = n := ⟨_, rfl⟩
   obtain ⟨n2, hn2⟩ : ∃ n, els.length = n := ⟨_, rfl⟩
   obtain ⟨n3, hn3⟩ : ∃ n, body'.length = n := ⟨_, rfl⟩
   obtain ⟨n4, hn4⟩ : ∃ n, els'.length = n := ⟨_, rfl⟩
   rw [hn1, hn2, hn3, hn4] at HG
   rw [hn1, hn3] at HC3
   rw [hn2, hn4] at HC4
   have HQ0 : Hid (SQ wr m m2 wr) := Lib.hid ⟨Kp.refl wr m m2, HW.out.2⟩
   clear hat hl hl' hS hN hN2 hf hrm hx hy hxy hszi hxx hyy hbb hee hz1 hz2 hS1 hx1 hy1 hpx x0 x3 x4 xe xi x19 xb x20 xb2 hpy y0 y3 y4 ye yi y19 yb y20 yb2 hlb hle hn1 hn2 hn3 hn4
   refine wp_seq_k fun K hK => ?_
   have HK := Lib.hid hK
   clear hK
   go_wp2_with fail
   refine HK.out _ _ ?_
   clear HK K
   refine wp_seq_k fun K hK => ?_
   have HK := Lib.hid hK
   clear hK
   go_wp2_with fail
   refine HK.out _ _ ?_
   clear HK K
   refine wp_seq_k fun KR hKR => ?_
   have HKR := Lib.hid hKR
   clear hKR
   refine wp_block ?_
   refine wp_seq_k fun K hK => ?_
   have HK := Lib.hid hK
   clear hK
   go_wp2_with fail
   refine HK.out _ _ ?_
   clear HK K
   refine wp_seq_k fun K hK => ?_
   have HK := Lib.hid hK
   clear hK
   go_wp2_with fail
   go_quiet (fail)
   rename_i nq
   go_wp2_with fail
   refine HK.out _ _ ?_
   clear HK K
   have HQ1 := Lib.hid (HQ0.out.drewN nq)
   clear HQ0
   generalize wr.drewN nq = V1 at *
   obtain ⟨hpx, hpy, hpm, -, d2⟩ := HP.out V1 HQ1.out
   have hbe : ∀ n, SQ wr m m2 ((V1.drewN n).alloc (.cells #[] 159)) := fun n => (HQ1.out.drewN n).alloc _
   have HBE := Lib.hid hbe
   clear hbe
   refine wp_seq_k fun K hK => ?_
   have HK := Lib.hid hK
   clear hK
   go_wp2_with ((with_reducible show wpList _ _ _ (Oper.mk _ (.lookup 162 _ _ true) _ _ _ _ :: _) _ _); refine wpList_lookup_two rfl _ _ 162 rfl KK map162 zero159 m2 ⟨p, po + i * 25, none⟩ ⟨q, qo + i * 25, none⟩ rfl rfl hpx hpy hpm ?_; intro r n1)
   ·have HQ2 : Hid (SQ w m m2 ((V1.drewN n1).alloc (.cells #[] 159))) := Lib.hid (HW.out.trans (HBE.out n1))
    refine HKR.out _ _ ?_
    clear HKR HK K HF HG HC1 HC2 HC3 HC4 HP HBE HQ1 HW KK hpx hpy hpm d2
    generalize (V1.drewN n1).alloc (.cells #[] 159) = V2 at *
    have hrm := HRM.out trivial
    go_wp2_with fail
    go_roundg (N - (i + 1))
    case measure => omega
    case rel => exact ⟨i + 1, by omega, rfl, rfl, HQ2⟩
   ·have HQ2 := Lib.hid (HBE.out n1)
    refine HK.out _ _ ?_
    clear HK K HBE HQ1 hpx hpy hpm d2
    generalize (V1.drewN n1).alloc (.cells #[] 159) = VA at *
    obtain ⟨hpx, hpy, hpm, hSA, d2⟩ := HP.out VA HQ2.out
    have HSA := Lib.hid hSA
    clear hSA
    refine wp_seq_k fun K hK => ?_
    have HK := Lib.hid hK
    clear hK
    go_wp2_with ((with_reducible show wpList _ _ _ (Oper.mk _ (.mapUpdate 162 _ _ _) _ _ _ _ :: _) _ _); refine wpList_update_two rfl _ _ _ 162 rfl KK map162 m2 ⟨p, po + i * 25, none⟩ ⟨q, qo + i * 25, none⟩ rfl rfl rfl hpx hpy hpm ?_; intro V2 hk2 hp2 hs2)
    refine HK.out _ _ ?_
    clear HK K
    have HQ3 : Hid (SQ wr m m2 V2) := Lib.hid (HQ2.out.trans (HSA.out.ofS hk2 hp2))
    clear hk2 hp2 hs2 HSA HQ2 hpx hpy hpm d2 HP KK
    refine wp_seq_k fun K hK => ?_
    have HK := Lib.hid hK
    clear hK
    go_wp2_with fail
    refine wp_region_x [] (SQ wr m m2) hmx ?_
    have HS0 : Hid ((SQ wr m m2) V2.drew) := Lib.hid HQ3.out.drew
    obtain ⟨w0, hw0⟩ : ∃ w0, V2.drew = w0 := ⟨_, rfl⟩
    rw [hw0] at HS0 ⊢
    clear hw0
    refine wpX_takeD 0 (some 43) (v := ?q1v0) rfl rfl (by kernel_rfl) (fun _ _ _ h => h) HS0.out (Or.inl ⟨by rfl, ?q1h0⟩) ?_
    case q1h0 =>
      intro W1 hS1
      clear hS1
      go_simp
      first | with_reducible rfl | rw [if_neg (by omega)]
    refine wpX_takeD 1 (some 44) (v := ?q1v1) rfl rfl (by kernel_rfl) (fun _ _ _ h => h) HS0.out (Or.inl ⟨by rfl, ?q1h1⟩) ?_
    case q1h1 =>
      intro W1 hS1
      clear hS1
      go_simp
      first | with_reducible rfl | rw [if_neg (by omega)]
    refine wpX_takeD 2 (some 45) (v := ?q1v2) rfl rfl (by kernel_rfl) (fun _ _ _ h => h) HS0.out (Or.inl ⟨by rfl, ?q1h2⟩) ?_
    case q1h2 =>
      intro W1 hS1
      clear hS1
      go_simp
      first | with_reducible rfl | rw [if_neg (by omega)]
    refine wpX_takeD 3 (some 46) (v := ?q1v3) rfl rfl (by kernel_rfl) (fun _ _ _ h => h) HS0.out (Or.inl ⟨by rfl, ?q1h3⟩) ?_
    case q1h3 =>
      intro W1 hS1
      obtain ⟨x0, x3, x4, y0, y3, y4, d3⟩ := HF.out W1 hS1
      clear hS1
      go_simp
      first | with_reducible rfl | rw [if_neg (by omega)]
    simp only [Act.put, List.setIfInBounds_toArray, List.set_cons_zero, List.set_cons_succ]
    refine wpX_takeD 4 (some 47) (v := ?q1v4) rfl rfl (by kernel_rfl) (fun _ _ _ h => h) HS0.out (Or.inl ⟨by rfl, ?q1h4⟩) ?_
    case q1h4 =>
      intro W1 hS1
      clear hS1
      go_simp
      first | with_reducible rfl | rw [if_neg (by omega)]
    refine wpX_takeD 5 (some 48) (v := ?q1v5) rfl rfl (by kernel_rfl) (fun _ _ _ h => h) HS0.out (Or.inl ⟨by rfl, ?q1h5⟩) ?_
    case q1h5 =>
      intro W1 hS1
      clear hS1
      go_simp
      first | with_reducible rfl | rw [if_neg (by omega)]
    refine wpX_takeD 6 (some 49) (v := ?q1v6) rfl rfl (by kernel_rfl) (fun _ _ _ h => h) HS0.out (Or.inl ⟨by rfl, ?q1h6⟩) ?_
    case q1h6 =>
      intro W1 hS1
      clear hS1
      go_simp
      first | with_reducible rfl | rw [if_neg (by omega)]
    refine wpX_takeD 7 (some 50) (v := ?q1v7) rfl rfl (by kernel_rfl) (fun _ _ _ h => h) HS0.out (Or.inl ⟨by rfl, ?q1h7⟩) ?_
    case q1h7 =>
      intro W1 hS1
      obtain ⟨x0, x3, x4, y0, y3, y4, d3⟩ := HF.out W1 hS1
      clear hS1
      go_simp
      first | with_reducible rfl | rw [if_neg (by omega)]
    simp only [Act.put, List.setIfInBounds_toArray, List.set_cons_zero, List.set_cons_succ]
    refine wpX_takeD 8 (some 51) (v := ?q1v8) rfl rfl (by kernel_rfl) (fun _ _ _ h => h) HS0.out (Or.inl ⟨by rfl, ?q1h8⟩) ?_
    case q1h8 =>
      intro W1 hS1
      clear hS1
      go_simp
      first | with_reducible rfl | rw [if_neg (by omega)]
    refine wpX_takeD 9 (some 52) (v := ?q1v9) rfl rfl (by kernel_rfl) (fun _ _ _ h => h) HS0.out (Or.inl ⟨by rfl, ?q1h9⟩) ?_
    case q1h9 =>
      intro W1 hS1
      clear hS1
      go_simp
      first | with_reducible rfl | rw [if_neg (by omega)]
    refine wpX_takeD 10 (some 53) (v := ?q1v10) rfl rfl (by kernel_rfl) (fun _ _ _ h => h) HS0.out (Or.inl ⟨by rfl, ?q1h10⟩) ?_
    case q1h10 =>
      intro W1 hS1
      clear hS1
      go_simp
      first | with_reducible rfl | rw [if_neg (by omega)]
    refine wpX_takeD 11 (some 54) (v := ?q1v11) rfl rfl (by kernel_rfl) (fun _ _ _ h => h) HS0.out (Or.inl ⟨by rfl, ?q1h11⟩) ?_
    case q1h11 =>
      intro W1 hS1
      clear hS1
      go_simp
      first | with_reducible rfl | rw [if_neg (by omega)]
    simp only [Act.put, List.setIfInBounds_toArray, List.set_cons_zero, List.set_cons_succ]
    refine wpX_takeD 12 (some 55) (v := ?q1v12) rfl rfl (by kernel_rfl) (fun _ _ _ h => h) HS0.out (Or.inl ⟨by rfl, ?q1h12⟩) ?_
    case q1h12 =>
      intro W1 hS1
      clear hS1
      go_simp
      first | with_reducible rfl | rw [if_neg (by omega)]
    refine wpX_takeD 13 (some 56) (v := ?q1v13) rfl rfl (by kernel_rfl) (fun _ _ _ h => h) HS0.out (Or.inl ⟨by rfl, ?q1h13⟩) ?_
    case q1h13 =>
      intro W1 hS1
      obtain ⟨x0, x3, x4, y0, y3, y4, d3⟩ := HF.out W1 hS1
      clear hS1
      go_simp
      first | with_reducible rfl | rw [if_neg (by omega)]
    refine wpX_takeD 14 (some 57) (v := ?q1v14) rfl rfl (by kernel_rfl) (fun _ _ _ h => h) HS0.out (Or.inl ⟨by rfl, ?q1h14⟩) ?_
    case q1h14 =>
      intro W1 hS1
      clear hS1
      go_simp
      first | with_reducible rfl | rw [if_neg (by omega)]
    refine wpX_takeD 15 (some 58) (v := ?q1v15) rfl rfl (by kernel_rfl) (fun _ _ _ h => h) HS0.out (Or.inl ⟨by rfl, ?q1h15⟩) ?_
    case q1h15 =>
      intro W1 hS1
      clear hS1
      go_simp
      first | with_reducible rfl | rw [if_neg (by omega)]
    simp only [Act.put, List.setIfInBounds_toArray, List.set_cons_zero, List.set_cons_succ]
    refine wpX_takeD 16 (some 59) (v := ?q1v16) rfl rfl (by kernel_rfl) (fun _ _ _ h => h) HS0.out (Or.inl ⟨by rfl, ?q1h16⟩) ?_
    case q1h16 =>
      intro W1 hS1
      clear hS1
      go_simp
      first | with_reducible rfl | rw [if_neg (by omega)]
    refine wpX_takeD 17 (some 60) (v := ?q1v17) rfl rfl (by kernel_rfl) (fun _ _ _ h => h) HS0.out (Or.inl ⟨by rfl, ?q1h17⟩) ?_
    case q1h17 =>
      intro W1 hS1
      obtain ⟨x0, x3, x4, y0, y3, y4, d3⟩ := HF.out W1 hS1
      clear hS1
      go_simp
      first | with_reducible rfl | rw [if_neg (by omega)]
    refine wpX_takeD 18 (some 61) (v := ?q1v18) rfl rfl (by kernel_rfl) (fun _ _ _ h => h) HS0.out (Or.inl ⟨by rfl, ?q1h18⟩) ?_
    case q1h18 =>
      intro W1 hS1
      clear hS1
      go_simp
      first | with_reducible rfl | rw [if_neg (by omega)]
    refine wpX_takeD 19 (some 62) (v := ?q1v19) rfl rfl (by kernel_rfl) (fun _ _ _ h => h) HS0.out (Or.inl ⟨by rfl, ?q1h19⟩) ?_
    case q1h19 =>
      intro W1 hS1
      clear hS1
      go_simp
      first | with_reducible rfl | rw [if_neg (by omega)]
    simp only [Act.put, List.setIfInBounds_toArray, List.set_cons_zero, List.set_cons_succ]
    refine wpX_takeD 20 (some 63) (v := ?q1v20) rfl rfl (by kernel_rfl) (fun _ _ _ h => h) HS0.out (Or.inl ⟨by rfl, ?q1h20⟩) ?_
    case q1h20 =>
      intro W1 hS1
      clear hS1
      go_simp
      first | with_reducible rfl | rw [if_neg (by omega)]
    refine wpX_takeD 21 (some 64) (v := ?q1v21) rfl rfl (by kernel_rfl) (fun _ _ _ h => h) HS0.out (Or.inl ⟨by rfl, ?q1h21⟩) ?_
    case q1h21 =>
      intro W1 hS1
      clear hS1
      go_simp
      first | with_reducible rfl | rw [if_neg (by omega)]
    refine wpX_takeD 22 (some 65) (v := ?q1v22) rfl rfl (by kernel_rfl) (fun _ _ _ h => h) HS0.out (Or.inl ⟨by rfl, ?q1h22⟩) ?_
    case q1h22 =>
      intro W1 hS1
      clear hS1
      go_simp
      first | with_reducible rfl | rw [if_neg (by omega)]
    refine wpX_takeD 23 (some 66) (v := ?q1v23) rfl rfl (by kernel_rfl) (fun _ _ _ h => h) HS0.out (Or.inl ⟨by rfl, ?q1h23⟩) ?_
    case q1h23 =>
      intro W1 hS1
      clear hS1
      go_simp
      first | with_reducible rfl | rw [if_neg (by omega)]
    simp only [Act.put, List.setIfInBounds_toArray, List.set_cons_zero, List.set_cons_succ]
    refine wpX_takeD 24 (some 67) (v := ?q1v24) rfl rfl (by kernel_rfl) (fun _ _ _ h => h) HS0.out (Or.inl ⟨by rfl, ?q1h24⟩) ?_
    case q1h24 =>
      intro W1 hS1
      obtain ⟨x0, x3, x4, y0, y3, y4, d3⟩ := HF.out W1 hS1
      clear hS1
      go_simp
      first | with_reducible rfl | rw [if_neg (by omega)]
    refine wpX_takeD 25 (some 68) (v := ?q1v25) rfl rfl (by kernel_rfl) (fun _ _ _ h => h) HS0.out (Or.inl ⟨by rfl, ?q1h25⟩) ?_
    case q1h25 =>
      intro W1 hS1
      clear hS1
      go_simp
      first | with_reducible rfl | rw [if_neg (by omega)]
    refine wpX_takeD 26 (some 69) (v := ?q1v26) rfl rfl (by kernel_rfl) (fun _ _ _ h => h) HS0.out (Or.inl ⟨by rfl, ?q1h26⟩) ?_
    case q1h26 =>
      intro W1 hS1
      clear hS1
      go_simp
      first | with_reducible rfl | rw [if_neg (by omega)]
    refine wpX_takeD 27 (some 70) (v := ?q1v27) rfl rfl (by kernel_rfl) (fun _ _ _ h => h) HS0.out (Or.inl ⟨by rfl, ?q1h27⟩) ?_
    case q1h27 =>
      intro W1 hS1
      clear hS1
      go_simp
      first | with_reducible rfl | rw [if_neg (by omega)]
    simp only [Act.put, List.setIfInBounds_toArray, List.set_cons_zero, List.set_cons_succ]
    refine wpX_takeD 28 (some 71) (v := ?q1v28) rfl rfl (by kernel_rfl) (fun _ _ _ h => h) HS0.out (Or.inl ⟨by rfl, ?q1h28⟩) ?_
    case q1h28 =>
      intro W1 hS1
      obtain ⟨x0, x3, x4, y0, y3, y4, d3⟩ := HF.out W1 hS1
      clear hS1
      go_simp
      first | with_reducible rfl | rw [if_neg (by omega)]
    refine wpX_takeD 29 (some 72) (v := ?q1v29) rfl rfl (by kernel_rfl) (fun _ _ _ h => h) HS0.out (Or.inl ⟨by rfl, ?q1h29⟩) ?_
    case q1h29 =>
      intro W1 hS1
      clear hS1
      go_simp
      first | with_reducible rfl | rw [if_neg (by omega)]
    refine wpX_takeD 30 (some 73) (v := ?q1v30) rfl rfl (by kernel_rfl) (fun _ _ _ h => h) HS0.out (Or.inl ⟨by rfl, ?q1h30⟩) ?_
    case q1h30 =>
      intro W1 hS1
      clear hS1
      go_simp
      first | with_reducible rfl | rw [if_neg (by omega)]
    refine wpX_takeD 31 (some 74) (v := ?q1v31) rfl rfl (by kernel_rfl) (fun _ _ _ h => h) HS0.out (Or.inl ⟨by rfl, ?q1h31⟩) ?_
    case q1h31 =>
      intro W1 hS1
      clear hS1
      go_simp
      first | with_reducible rfl | rw [if_neg (by omega)]
    simp only [Act.put, List.setIfInBounds_toArray, List.set_cons_zero, List.set_cons_succ]
    refine wpX_takeD 32 (some 75) (v := ?q1v32) rfl rfl (by kernel_rfl) (fun _ _ _ h => h) HS0.out (Or.inl ⟨by rfl, ?q1h32⟩) ?_
    case q1h32 =>
      intro W1 hS1
      obtain ⟨x0, x3, x4, y0, y3, y4, d3⟩ := HF.out W1 hS1
      clear hS1
      go_simp
      first | with_reducible rfl | rw [if_neg (by omega)]
    refine wpX_takeD 33 (some 76) (v := ?q1v33) rfl rfl (by kernel_rfl) (fun _ _ _ h => h) HS0.out (Or.inl ⟨by rfl, ?q1h33⟩) ?_
    case q1h33 =>
      intro W1 hS1
      clear hS1
      go_simp
      first | with_reducible rfl | rw [if_neg (by omega)]
    refine wpX_takeD 34 (some 77) (v := ?q1v34) rfl rfl (by kernel_rfl) (fun _ _ _ h => h) HS0.out (Or.inl ⟨by rfl, ?q1h34⟩) ?_
    case q1h34 =>
      intro W1 hS1
      clear hS1
      go_simp
      first | with_reducible rfl | rw [if_neg (by omega)]
    refine wpX_takeD 35 (some 78) (v := ?q1v35) rfl rfl (by kernel_rfl) (fun _ _ _ h => h) HS0.out (Or.inl ⟨by rfl, ?q1h35⟩) ?_
    case q1h35 =>
      intro W1 hS1
      clear hS1
      go_simp
      first | with_reducible rfl | rw [if_neg (by omega)]
    simp only [Act.put, List.setIfInBounds_toArray, List.set_cons_zero, List.set_cons_succ]
    refine wpX_takeD 36 (some 79) (v := ?q1v36) rfl rfl (by kernel_rfl) (fun _ _ _ h => h) HS0.out (Or.inl ⟨by rfl, ?q1h36⟩) ?_
    case q1h36 =>
      intro W1 hS1
      clear hS1
      go_simp
      first | with_reducible rfl | rw [if_neg (by omega)]
    refine wpX_takeD 37 (some 80) (v := ?q1v37) rfl rfl (by kernel_rfl) (fun _ _ _ h => h) HS0.out (Or.inl ⟨by rfl, ?q1h37⟩) ?_
    case q1h37 =>
      intro W1 hS1
      clear hS1
      go_simp
      first | with_reducible rfl | rw [if_neg (by omega)]
    refine wpX_takeD 38 (some 81) (v := ?q1v38) rfl rfl (by kernel_rfl) (fun _ _ _ h => h) HS0.out (Or.inl ⟨by rfl, ?q1h38⟩) ?_
    case q1h38 =>
      intro W1 hS1
      clear hS1
      go_simp
      first | with_reducible rfl | rw [if_neg (by omega)]
    simp only [Act.put, List.setIfInBounds_toArray, List.set_cons_zero, List.set_cons_succ]
    refine wpX_one 39 (by kernel_rfl) rfl (fun K hK => ?_)
    go_simp
    refine (HC1.out w0 HS0.out).mono ?_
    rintro e w1 ⟨rfl, hq⟩
    have HS1 : Hid ((SQ wr m m2) w1) := Lib.hid (hq)
    refine hK _ _ (fun _ => HS1.out) ?_
    clear hK K HS0
    refine wpX_takeD 40 (some 83) (v := ?q1v40) rfl rfl (by kernel_rfl) (fun _ _ _ h => h) HS1.out (Or.inl ⟨by rfl, ?q1h40⟩) ?_
    case q1h40 =>
      intro W1 hS1
      clear hS1
      go_simp
      first | with_reducible rfl | rw [if_neg (by omega)]
    simp only [Act.put, List.setIfInBounds_toArray, List.set_cons_zero, List.set_cons_succ]
    refine wpX_takeD 41 (some 84) (v := ?q1v41) rfl rfl (by kernel_rfl) (fun _ _ _ h => h) HS1.out (Or.inl ⟨by rfl, ?q1h41⟩) ?_
    case q1h41 =>
      intro W1 hS1
      clear hS1
      go_simp
      first | with_reducible rfl | rw [if_neg (by omega)]
    refine wpX_takeD 42 (some 85) (v := ?q1v42) rfl rfl (by kernel_rfl) (fun _ _ _ h => h) HS1.out (Or.inl ⟨by rfl, ?q1h42⟩) ?_
    case q1h42 =>
      intro W1 hS1
      clear hS1
      go_simp
      first | with_reducible rfl | rw [if_neg (by omega)]
    refine wpX_takeD 43 (some 86) (v := ?q1v43) rfl rfl (by kernel_rfl) (fun _ _ _ h => h) HS1.out (Or.inl ⟨by rfl, ?q1h43⟩) ?_
    case q1h43 =>
      intro W1 hS1
      obtain ⟨x0, x3, x4, y0, y3, y4, d3⟩ := HF.out W1 hS1
      clear hS1
      go_simp
      first | with_reducible rfl | rw [if_neg (by omega)]
    refine wpX_takeD 44 (some 87) (v := ?q1v44) rfl rfl (by kernel_rfl) (fun _ _ _ h => h) HS1.out (Or.inl ⟨by rfl, ?q1h44⟩) ?_
    case q1h44 =>
      intro W1 hS1
      clear hS1
      go_simp
      first | with_reducible rfl | rw [if_neg (by omega)]
    simp only [Act.put, List.setIfInBounds_toArray, List.set_cons_zero, List.set_cons_succ]
    refine wpX_takeD 45 (some 88) (v := ?q1v45) rfl rfl (by kernel_rfl) (fun _ _ _ h => h) HS1.out (Or.inl ⟨by rfl, ?q1h45⟩) ?_
    case q1h45 =>
      intro W1 hS1
      clear hS1
      go_simp
      first | with_reducible rfl | rw [if_neg (by omega)]
    refine wpX_takeD 46 (some 89) (v := ?q1v46) rfl rfl (by kernel_rfl) (fun _ _ _ h => h) HS1.out (Or.inl ⟨by rfl, ?q1h46⟩) ?_
    case q1h46 =>
      intro W1 hS1
      clear hS1
      go_simp
      first | with_reducible rfl | rw [if_neg (by omega)]
    refine wpX_takeD 47 (some 90) (v := ?q1v47) rfl rfl (by kernel_rfl) (fun _ _ _ h => h) HS1.out (Or.inl ⟨by rfl, ?q1h47⟩) ?_
    case q1h47 =>
      intro W1 hS1
      clear hS1
      go_simp
      first | with_reducible rfl | rw [if_neg (by omega)]
    refine wpX_takeD 48 (some 91) (v := ?q1v48) rfl rfl (by kernel_rfl) (fun _ _ _ h => h) HS1.out (Or.inl ⟨by rfl, ?q1h48⟩) ?_
    case q1h48 =>
      intro W1 hS1
      clear hS1
      go_simp
      first | with_reducible rfl | rw [if_neg (by omega)]
    simp only [Act.put, List.setIfInBounds_toArray, List.set_cons_zero, List.set_cons_succ]
    refine wpX_takeD 49 (some 92) (v := ?q1v49) rfl rfl (by kernel_rfl) (fun _ _ _ h => h) HS1.out (Or.inl ⟨by rfl, ?q1h49⟩) ?_
    case q1h49 =>
      intro W1 hS1
      clear hS1
      go_simp
      first | with_reducible rfl | rw [if_neg (by omega)]
    simp only [Act.put, List.setIfInBounds_toArray, List.set_cons_zero, List.set_cons_succ]
    refine wpX_one 50 (by kernel_rfl) rfl (fun K hK => ?_)
    go_simp
    refine (HC2.out w1 HS1.out).mono ?_
    rintro e w2 ⟨rfl, hq⟩
    have HS2 : Hid ((SQ wr m m2) w2) := Lib.hid (hq)
    refine hK _ _ (fun _ => HS2.out) ?_
    clear hK K HS1
    refine wpX_takeD 51 (some 94) (v := ?q1v51) rfl rfl (by kernel_rfl) (fun _ _ _ h => h) HS2.out (Or.inl ⟨by rfl, ?q1h51⟩) ?_
    case q1h51 =>
      intro W1 hS1
      clear hS1
      go_simp
      first | with_reducible rfl | rw [if_neg (by omega)]
    refine wpX_takeD 52 (some 95) (v := ?q1v52) rfl rfl (by kernel_rfl) (fun _ _ _ h => h) HS2.out (Or.inl ⟨by rfl, ?q1h52⟩) ?_
    case q1h52 =>
      intro W1 hS1
      clear hS1
      go_simp
      first | with_reducible rfl | rw [if_neg (by omega)]
    simp only [Act.put, List.setIfInBounds_toArray, List.set_cons_zero, List.set_cons_succ]
    refine wpX_done (by kernel_rfl) ?_ _
    clear HF HC1 HC2 HQ3
    go_wp2_with fail
    refine HK.out _ _ ?_
    clear HK K
    refine wp_seq_k fun K hK => ?_
    have HK := Lib.hid hK
    clear hK
    go_wp2_with fail
    refine wp_region_x [] (SQ wr m m2) hmx ?_
    have HT0 : Hid ((SQ wr m m2) w2.drew) := Lib.hid HS2.out.drew
    obtain ⟨w0, hw0⟩ : ∃ w0, w2.drew = w0 := ⟨_, rfl⟩
    rw [hw0] at HT0 ⊢
    clear hw0
    refine wpX_takeD 0 (some 96) (v := ?q2v0) rfl rfl (by kernel_rfl) (fun _ _ _ h => h) HT0.out (Or.inl ⟨by rfl, ?q2h0⟩) ?_
    case q2h0 =>
      intro W1 hS1
      obtain ⟨x19, x20, y19, y20, d4⟩ := HG.out W1 hS1
      clear hS1
      go_simp
      first | with_reducible rfl | rw [if_neg (by omega)]
    refine wpX_takeD 1 (some 97) (v := ?q2v1) rfl rfl (by kernel_rfl) (fun _ _ _ h => h) HT0.out (Or.inl ⟨by rfl, ?q2h1⟩) ?_
    case q2h1 =>
      intro W1 hS1
      clear hS1
      go_simp
      first | with_reducible rfl | rw [if_neg (by omega)]
    refine wpX_takeD 2 (some 98) (v := ?q2v2) rfl rfl (by kernel_rfl) (fun _ _ _ h => h) HT0.out (Or.inl ⟨by rfl, ?q2h2⟩) ?_
    case q2h2 =>
      intro W1 hS1
      clear hS1
      go_simp
      first | with_reducible rfl | rw [if_neg (by omega)]
    refine wpX_takeD 3 (some 99) (v := ?q2v3) rfl rfl (by kernel_rfl) (fun _ _ _ h => h) HT0.out (Or.inl ⟨by rfl, ?q2h3⟩) ?_
    case q2h3 =>
      intro W1 hS1
      clear hS1
      go_simp
      first | with_reducible rfl | rw [if_neg (by omega)]
    simp only [Act.put, List.setIfInBounds_toArray, List.set_cons_zero, List.set_cons_succ]
    refine wpX_takeD 4 (some 100) (v := ?q2v4) rfl rfl (by kernel_rfl) (fun _ _ _ h => h) HT0.out (Or.inl ⟨by rfl, ?q2h4⟩) ?_
    case q2h4 =>
      intro W1 hS1
      obtain ⟨x19, x20, y19, y20, d4⟩ := HG.out W1 hS1
      clear hS1
      go_simp
      first | with_reducible rfl | rw [if_neg (by omega)]
    refine wpX_takeD 5 (some 101) (v := ?q2v5) rfl rfl (by kernel_rfl) (fun _ _ _ h => h) HT0.out (Or.inl ⟨by rfl, ?q2h5⟩) ?_
    case q2h5 =>
      intro W1 hS1
      clear hS1
      go_simp
      first | with_reducible rfl | rw [if_neg (by omega)]
    refine wpX_takeD 6 (some 102) (v := ?q2v6) rfl rfl (by kernel_rfl) (fun _ _ _ h => h) HT0.out (Or.inl ⟨by rfl, ?q2h6⟩) ?_
    case q2h6 =>
      intro W1 hS1
      clear hS1
      go_simp
      first | with_reducible rfl | rw [if_neg (by omega)]
    refine wpX_takeD 7 (some 103) (v := ?q2v7) rfl rfl (by kernel_rfl) (fun _ _ _ h => h) HT0.out (Or.inl ⟨by rfl, ?q2h7⟩) ?_
    case q2h7 =>
      intro W1 hS1
      clear hS1
      go_simp
      first | with_reducible rfl | rw [if_neg (by omega)]
    simp only [Act.put, List.setIfInBounds_toArray, List.set_cons_zero, List.set_cons_succ]
    refine wpX_takeD 8 (some 104) (v := ?q2v8) rfl rfl (by kernel_rfl) (fun _ _ _ h => h) HT0.out (Or.inl ⟨by rfl, ?q2h8⟩) ?_
    case q2h8 =>
      intro W1 hS1
      obtain ⟨x19, x20, y19, y20, d4⟩ := HG.out W1 hS1
      clear hS1
      go_simp
      first | with_reducible rfl | rw [if_neg (by omega)]
    simp only [Act.put, List.setIfInBounds_toArray, List.set_cons_zero, List.set_cons_succ]
    refine wpX_one 9 (by kernel_rfl) rfl (fun K hK => ?_)
    go_simp
    refine (HC3.out w0 HT0.out).mono ?_
    rintro e w3 ⟨rfl, hq⟩
    have HT1 : Hid ((SQ wr m m2) w3) := Lib.hid (hq)
    refine hK _ _ (fun _ => HT1.out) ?_
    clear hK K HT0
    refine wpX_takeD 10 (some 106) (v := ?q2v10) rfl rfl (by kernel_rfl) (fun _ _ _ h => h) HT1.out (Or.inl ⟨by rfl, ?q2h10⟩) ?_
    case q2h10 =>
      intro W1 hS1
      clear hS1
      go_simp
      first | with_reducible rfl | rw [if_neg (by omega)]
    refine wpX_takeD 11 (some 107) (v := ?q2v11) rfl rfl (by kernel_rfl) (fun _ _ _ h => h) HT1.out (Or.inl ⟨by rfl, ?q2h11⟩) ?_
    case q2h11 =>
      intro W1 hS1
      clear hS1
      go_simp
      first | with_reducible rfl | rw [if_neg (by omega)]
    refine wpX_takeD 12 (some 108) (v := ?q2v12) rfl rfl (by kernel_rfl) (fun _ _ _ h => h) HT1.out (Or.inl ⟨by rfl, ?q2h12⟩) ?_
    case q2h12 =>
      intro W1 hS1
      obtain ⟨x19, x20, y19, y20, d4⟩ := HG.out W1 hS1
      clear hS1
      go_simp
      first | with_reducible rfl | rw [if_neg (by omega)]
    simp only [Act.put, List.setIfInBounds_toArray, List.set_cons_zero, List.set_cons_succ]
    refine wpX_takeD 13 (some 109) (v := ?q2v13) rfl rfl (by kernel_rfl) (fun _ _ _ h => h) HT1.out (Or.inl ⟨by rfl, ?q2h13⟩) ?_
    case q2h13 =>
      intro W1 hS1
      clear hS1
      go_simp
      first | with_reducible rfl | rw [if_neg (by omega)]
    refine wpX_takeD 14 (some 110) (v := ?q2v14) rfl rfl (by kernel_rfl) (fun _ _ _ h => h) HT1.out (Or.inl ⟨by rfl, ?q2h14⟩) ?_
    case q2h14 =>
      intro W1 hS1
      clear hS1
      go_simp
      first | with_reducible rfl | rw [if_neg (by omega)]
    refine wpX_takeD 15 (some 111) (v := ?q2v15) rfl rfl (by kernel_rfl) (fun _ _ _ h => h) HT1.out (Or.inl ⟨by rfl, ?q2h15⟩) ?_
    case q2h15 =>
      intro W1 hS1
      clear hS1
      go_simp
      first | with_reducible rfl | rw [if_neg (by omega)]
    refine wpX_takeD 16 (some 112) (v := ?q2v16) rfl rfl (by kernel_rfl) (fun _ _ _ h => h) HT1.out (Or.inl ⟨by rfl, ?q2h16⟩) ?_
    case q2h16 =>
      intro W1 hS1
      obtain ⟨x19, x20, y19, y20, d4⟩ := HG.out W1 hS1
      clear hS1
      go_simp
      first | with_reducible rfl | rw [if_neg (by omega)]
    simp only [Act.put, List.setIfInBounds_toArray, List.set_cons_zero, List.set_cons_succ]
    refine wpX_takeD 17 (some 113) (v := ?q2v17) rfl rfl (by kernel_rfl) (fun _ _ _ h => h) HT1.out (Or.inl ⟨by rfl, ?q2h17⟩) ?_
    case q2h17 =>
      intro W1 hS1
      clear hS1
      go_simp
      first | with_reducible rfl | rw [if_neg (by omega)]
    refine wpX_takeD 18 (some 114) (v := ?q2v18) rfl rfl (by kernel_rfl) (fun _ _ _ h => h) HT1.out (Or.inl ⟨by rfl, ?q2h18⟩) ?_
    case q2h18 =>
      intro W1 hS1
      clear hS1
      go_simp
      first | with_reducible rfl | rw [if_neg (by omega)]
    refine wpX_takeD 19 (some 115) (v := ?q2v19) rfl rfl (by kernel_rfl) (fun _ _ _ h => h) HT1.out (Or.inl ⟨by rfl, ?q2h19⟩) ?_
    case q2h19 =>
      intro W1 hS1
      clear hS1
      go_simp
      first | with_reducible rfl | rw [if_neg (by omega)]
    refine wpX_takeD 20 (some 116) (v := ?q2v20) rfl rfl (by kernel_rfl) (fun _ _ _ h => h) HT1.out (Or.inl ⟨by rfl, ?q2h20⟩) ?_
    case q2h20 =>
      intro W1 hS1
      obtain ⟨x19, x20, y19, y20, d4⟩ := HG.out W1 hS1
      clear hS1
      go_simp
      first | with_reducible rfl | rw [if_neg (by omega)]
    simp only [Act.put, List.setIfInBounds_toArray, List.set_cons_zero, List.set_cons_succ]
    refine wpX_one 21 (by kernel_rfl) rfl (fun K hK => ?_)
    go_simp
    refine (HC4.out w3 HT1.out).mono ?_
    rintro e w4 ⟨rfl, hq⟩
    have HT2 : Hid ((SQ wr m m2) w4) := Lib.hid (hq)
    refine hK _ _ (fun _ => HT2.out) ?_
    clear hK K HT1
    refine wpX_takeD 22 (some 118) (v := ?q2v22) rfl rfl (by kernel_rfl) (fun _ _ _ h => h) HT2.out (Or.inl ⟨by rfl, ?q2h22⟩) ?_
    case q2h22 =>
      intro W1 hS1
      clear hS1
      go_simp
      first | with_reducible rfl | rw [if_neg (by omega)]
    refine wpX_takeD 23 (some 119) (v := ?q2v23) rfl rfl (by kernel_rfl) (fun _ _ _ h => h) HT2.out (Or.inl ⟨by rfl, ?q2h23⟩) ?_
    case q2h23 =>
      intro W1 hS1
      clear hS1
      go_simp
      first | with_reducible rfl | rw [if_neg (by omega)]
    simp only [Act.put, List.setIfInBounds_toArray, List.set_cons_zero, List.set_cons_succ]
    refine wpX_done (by kernel_rfl) ?_ _
    have HQ5 : Hid (SQ w m m2 w4) := Lib.hid (HW.out.trans HT2.out)
    clear HG HC3 HC4 HS2 HT2 HW
    go_wp2_with fail
    refine HK.out _ _ ?_
    clear HK K
    go_wp2_with fail
    refine HKR.out _ _ ?_
    clear HKR KR
    have hrm := HRM.out trivial
    go_wp2_with fail
    go_roundg (N - (i + 1))
    case measure => omega
    case rel => exact ⟨i + 1, by omega, rfl, rfl, HQ5⟩
  ·obtain rfl : i = N := by omega
   have hlt : ¬ (i : Int) < (i : Int) := by omega
   have hfin := HW.out
   clear HW
   go_wp2_with fail
   go_ret
   exact ⟨rfl, hfin⟩
theorem sameS_all : ∀ f, SamS f
 | 0 => fun _ _ _ _ _ _ _ _ _ _ _ _ _ _ hf => absurd hf (Nat.not_lt_zero _)
 | f + 1 => sameS_step (sameS_all f)
theorem sameS_any {l l' : List St} {a a' : Option Addr} {cap cap' : Nat} {w : World} {b2 b3 b4 m2 bs be m : Nat} (hll : St.cans l = St.cans l') (hl : SlU w a cap l) (hl' : SlU w a' cap' l') (hS : SeS w b2 b3 b4 m2 bs be m) :
 Calls Tryz.prog 107 #[.slice a l.length cap, .slice a' l'.length cap', .pointer (some ⟨b2, 0, none⟩), .pointer (some ⟨b3, 0, none⟩), .pointer (some ⟨b4, 0, none⟩)] w fun e w' => e = .returned (.bool true) ∧ SQ w m m2 w' :=
 sameS_all (SizeOf.sizeOf l + 1) l l' a cap a' cap' w b2 b3 b4 m2 bs be m (Nat.lt_succ_self _) hll hl hl' hS
end Go.Proofs.YtjmlmelcppbefaaGreatDoor
