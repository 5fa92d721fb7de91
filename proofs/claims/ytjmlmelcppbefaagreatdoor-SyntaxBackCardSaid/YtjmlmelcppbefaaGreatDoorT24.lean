/- What the syntax texts share, part 24. No condition. -/
import Derived.Test.YtjmlmelcppbefaaGreatDoorT09
import Derived.Test.YtjmlmelcppbefaaGreatDoorT23
namespace Go.Proofs.YtjmlmelcppbefaaGreatDoor
open Go.RowKit Go.Maps
def St.setKind : St → Int → St
 | .mk _ l c s t x y b e i sl ot lo, k => .mk k l c s t x y b e i sl ot lo
def St.setName : St → ByteArray → St
 | .mk k l c _ t x y b e i sl ot lo, s => .mk k l c s t x y b e i sl ot lo
def St.setWith : St → ByteArray → St
 | .mk k l c s _ x y b e i sl ot lo, t => .mk k l c s t x y b e i sl ot lo
def St.setExpr : St → Ex → St
 | .mk k l c s t _ y b e i sl ot lo, x => .mk k l c s t x y b e i sl ot lo
def St.setIndex : St → Ex → St
 | .mk k l c s t x _ b e i sl ot lo, y => .mk k l c s t x y b e i sl ot lo
def St.setBody : St → List St → St
 | .mk k l c s t x y _ e i sl ot lo, b => .mk k l c s t x y b e i sl ot lo
def St.setEls : St → List St → St
 | .mk k l c s t x y b _ i sl ot lo, e => .mk k l c s t x y b e i sl ot lo
theorem ExL.cells {ok : Nat → Prop} {w : World} {cs : List Value} : ∀ {e : Ex}, ExL ok w cs e → cs.length = 7 ∧ ∀ v ∈ cs, v.oneCell' = true
 | .mk k n s sl lo o args, h => by
  unfold ExL at h
  obtain ⟨a, cap, rfl, -⟩ := h
  refine ⟨rfl, fun v hv => ?_⟩
  simp only [List.mem_cons, List.not_mem_nil, or_false] at hv
  rcases hv with rfl | rfl | rfl | rfl | rfl | rfl | rfl <;> rfl
theorem StL.cells {ok : Nat → Prop} {w : World} {cs : List Value} : ∀ {s : St}, StL ok w cs s → cs.length = 25 ∧ ∀ v ∈ cs, v.oneCell' = true
 | .mk k l c s t x y b e i sl ot lo, h => by
  unfold StL at h
  obtain ⟨cx, cy, a, a', cap, cap', rfl, hx, hy, -⟩ := h
  obtain ⟨h1, h2⟩ := hx.cells
  obtain ⟨h3, h4⟩ := hy.cells
  refine ⟨by simp [h1, h3], fun v hv => ?_⟩
  simp only [List.mem_cons, List.mem_append, List.not_mem_nil, or_false] at hv
  rcases hv with rfl | rfl | rfl | rfl | rfl | hv | hv | rfl | rfl | rfl | rfl | rfl | rfl
  case inr.inr.inr.inr.inr.inl => exact h2 v hv
  case inr.inr.inr.inr.inr.inr.inl => exact h4 v hv
  all_goals rfl
section
variable {ok : Nat → Prop} {w : World} {cs : List Value}
theorem StL.kind (q : Int) : ∀ {s : St}, StL ok w cs s → StL ok w (cs.set 0 (.int .i64 q)) (s.setKind q)
 | .mk k l c s t x y b e i sl ot lo, h => by
  unfold StL at h
  obtain ⟨cx, cy, a, a', cap, cap', rfl, hx, hy, h1, h2, h3, h4⟩ := h
  unfold St.setKind StL
  exact ⟨cx, cy, a, a', cap, cap', rfl, hx, hy, h1, h2, h3, h4⟩
theorem StL.name (q : ByteArray) : ∀ {s : St}, StL ok w cs s → StL ok w (cs.set 3 (.string q)) (s.setName q)
 | .mk k l c s t x y b e i sl ot lo, h => by
  unfold StL at h
  obtain ⟨cx, cy, a, a', cap, cap', rfl, hx, hy, h1, h2, h3, h4⟩ := h
  unfold St.setName StL
  exact ⟨cx, cy, a, a', cap, cap', rfl, hx, hy, h1, h2, h3, h4⟩
theorem StL.wth (q : ByteArray) : ∀ {s : St}, StL ok w cs s → StL ok w (cs.set 4 (.string q)) (s.setWith q)
 | .mk k l c s t x y b e i sl ot lo, h => by
  unfold StL at h
  obtain ⟨cx, cy, a, a', cap, cap', rfl, hx, hy, h1, h2, h3, h4⟩ := h
  unfold St.setWith StL
  exact ⟨cx, cy, a, a', cap, cap', rfl, hx, hy, h1, h2, h3, h4⟩
theorem StL.expr {cz : List Value} {z : Ex} (hz : ExL ok w cz z) : ∀ {s : St}, StL ok w cs s → StL ok w (putAt cs 5 cz) (s.setExpr z)
 | .mk k l c s t x y b e i sl ot lo, h => by
  unfold StL at h
  obtain ⟨cx, cy, a, a', cap, cap', rfl, hx, hy, h1, h2, h3, h4⟩ := h
  unfold St.setExpr StL
  refine ⟨cz, cy, a, a', cap, cap', ?_, hz, hy, h1, h2, h3, h4⟩
  exact putAt_mid cz cx [.int .i64 k, .int .i64 l, .int .i64 c, .string s, .string t] _ (by rw [hz.cells.1, hx.cells.1])
theorem StL.index {cz : List Value} {z : Ex} (hz : ExL ok w cz z) : ∀ {s : St}, StL ok w cs s → StL ok w (putAt cs 12 cz) (s.setIndex z)
 | .mk k l c s t x y b e i sl ot lo, h => by
  unfold StL at h
  obtain ⟨cx, cy, a, a', cap, cap', rfl, hx, hy, h1, h2, h3, h4⟩ := h
  unfold St.setIndex StL
  refine ⟨cx, cz, a, a', cap, cap', ?_, hx, hz, h1, h2, h3, h4⟩
  have := putAt_mid cz cy (.int .i64 k :: .int .i64 l :: .int .i64 c :: .string s :: .string t :: cx) [.slice a b.length cap, .slice a' e.length cap', .int .i64 i, .int .i64 sl, .int .i64 ot, .bool lo] (by rw [hz.cells.1, hy.cells.1])
  simpa [hx.cells.1] using this
theorem StL.body {a0 : Option Addr} {l0 : List St} {cap0 : Nat} (hl : Roomy l0.length cap0) (hz : StsL ok w a0 0 l0) : ∀ {s : St}, StL ok w cs s → StL ok w (cs.set 19 (.slice a0 l0.length cap0)) (s.setBody l0)
 | .mk k l c s t x y b e i sl ot lo, h => by
  unfold StL at h
  obtain ⟨cx, cy, a, a', cap, cap', rfl, hx, hy, h1, h2, h3, h4⟩ := h
  unfold St.setBody StL
  refine ⟨cx, cy, a0, a', cap0, cap', ?_, hx, hy, hl, hz, h3, h4⟩
  simp [hx.cells.1, hy.cells.1]
theorem StL.els {a0 : Option Addr} {l0 : List St} {cap0 : Nat} (hl : Roomy l0.length cap0) (hz : StsL ok w a0 0 l0) : ∀ {s : St}, StL ok w cs s → StL ok w (cs.set 20 (.slice a0 l0.length cap0)) (s.setEls l0)
 | .mk k l c s t x y b e i sl ot lo, h => by
  unfold StL at h
  obtain ⟨cx, cy, a, a', cap, cap', rfl, hx, hy, h1, h2, h3, h4⟩ := h
  unfold St.setEls StL
  refine ⟨cx, cy, a, a0, cap, cap0, ?_, hx, hy, h1, h2, hl, hz⟩
  simp [hx.cells.1, hy.cells.1]
end
def Sb (B : Nat) (w : World) (sb : Nat) (st : St) : Prop := ∃ cs, Blk w sb 64 cs ∧ StL (fun c => B ≤ c ∧ c ≠ sb) w cs st
section
variable {B sb : Nat} {w w' : World} {st : St}
theorem Sb.lt (h : Sb B w sb st) : sb < w.heap.size := by
 obtain ⟨cs, h1, -⟩ := h
 exact h1.lt
theorem Sb.there (h : Sb B w sb st) {o n : Nat} (hn : o + n ≤ 25) : w.there sb o n := by
 obtain ⟨cs, h1, h2⟩ := h
 exact h1.there (by rw [h2.cells.1]; exact hn)
theorem Sb.cell (h : Sb B w sb st) {j : Nat} (hj : j < 25) : ∃ v, w.cell? ⟨sb, j, none⟩ = some v := by
 obtain ⟨cs, h1, h2⟩ := h
 have := h2.cells.1
 exact ⟨_, (h1.cell j).trans (List.getElem?_eq_getElem (by omega))⟩
theorem Sb.frozen (h : Sb B w sb st) (j : Nat) : w.frozen? ⟨sb, j, none⟩ = false := by
 obtain ⟨cs, h1, -⟩ := h
 exact h1.frozen j
theorem Sb.keep (h : Sb B w sb st) (hk : ∀ c, c < w.heap.size → B ≤ c → w'.heap[c]? = w.heap[c]?) (hB : B ≤ sb) : Sb B w' sb st := by
 have hl := h.lt
 obtain ⟨cs, h1, h2⟩ := h
 refine ⟨cs, h1.of (hk _ hl hB), StL.keep (fun c o v hc hv => ?_) h2⟩
 rw [← hv]
 simp [World.cellU, World.cell?, World.frozen?, hk c (World.block_lt_of_cellU w hv) hc.1]
theorem Sb.kp {b : Nat} (h : Sb B w sb st) (hk : Kp w w' b b) (hb : b < B) (hB : B ≤ sb) : Sb B w' sb st :=
 h.keep (fun c hc hcB => hk.block c hc (by omega) (by omega)) hB
theorem Sb.drewN (h : Sb B w sb st) (n : Nat) : Sb B (w.drewN n) sb st := by
 obtain ⟨cs, h1, h2⟩ := h
 exact ⟨cs, h1.drewN n, StL.keep (w := w) (w' := w.drewN n) (fun c o v hc hv => hv) h2⟩
theorem Sb.write (cs' : List Value) (st' : St) (hw : ∀ c, c ≠ sb → w'.heap[c]? = w.heap[c]?) (hb : Blk w' sb 64 cs') (hs : StL (fun c => B ≤ c ∧ c ≠ sb) w cs' st') : Sb B w' sb st' :=
 ⟨cs', hb, StL.keep (fun c o v hc hv => by rw [← hv]; simp [World.cellU, World.cell?, World.frozen?, hw c hc.2]) hs⟩
theorem Sb.kind (h : Sb B w sb st) (q : Int) : Sb B (w.setCell ⟨sb, 0, none⟩ (.int .i64 q)) sb (st.setKind q) := by
 obtain ⟨cs, h1, h2⟩ := h
 exact Sb.write _ _ (fun c hc => Below.heap_setCell w ⟨sb, 0, none⟩ _ c hc) (h1.set1 0 _) (h2.kind q)
theorem Sb.name (h : Sb B w sb st) (q : ByteArray) : Sb B (w.setCell ⟨sb, 3, none⟩ (.string q)) sb (st.setName q) := by
 obtain ⟨cs, h1, h2⟩ := h
 exact Sb.write _ _ (fun c hc => Below.heap_setCell w ⟨sb, 3, none⟩ _ c hc) (h1.set1 3 _) (h2.name q)
theorem Sb.wth (h : Sb B w sb st) (q : ByteArray) : Sb B (w.setCell ⟨sb, 4, none⟩ (.string q)) sb (st.setWith q) := by
 obtain ⟨cs, h1, h2⟩ := h
 exact Sb.write _ _ (fun c hc => Below.heap_setCell w ⟨sb, 4, none⟩ _ c hc) (h1.set1 4 _) (h2.wth q)
theorem Sb.expr (h : Sb B w sb st) {cz : List Value} {z : Ex} (hz : ExL (fun c => B ≤ c ∧ c ≠ sb) w cz z) : Sb B (w.setCells sb 5 cz) sb (st.setExpr z) := by
 obtain ⟨cs, h1, h2⟩ := h
 exact Sb.write _ _ (fun c hc => heap_setCells hc _ _ w) (Blk.setCells cz 5 h1) (h2.expr hz)
theorem Sb.index (h : Sb B w sb st) {cz : List Value} {z : Ex} (hz : ExL (fun c => B ≤ c ∧ c ≠ sb) w cz z) : Sb B (w.setCells sb 12 cz) sb (st.setIndex z) := by
 obtain ⟨cs, h1, h2⟩ := h
 exact Sb.write _ _ (fun c hc => heap_setCells hc _ _ w) (Blk.setCells cz 12 h1) (h2.index hz)
theorem Sb.body (h : Sb B w sb st) {a0 : Option Addr} {l0 : List St} {cap0 : Nat} (hl : Roomy l0.length cap0) (hz : StsL (fun c => B ≤ c ∧ c ≠ sb) w a0 0 l0) : Sb B (w.setCell ⟨sb, 19, none⟩ (.slice a0 l0.length cap0)) sb (st.setBody l0) := by
 obtain ⟨cs, h1, h2⟩ := h
 exact Sb.write _ _ (fun c hc => Below.heap_setCell w ⟨sb, 19, none⟩ _ c hc) (h1.set1 19 _) (h2.body hl hz)
theorem Sb.els (h : Sb B w sb st) {a0 : Option Addr} {l0 : List St} {cap0 : Nat} (hl : Roomy l0.length cap0) (hz : StsL (fun c => B ≤ c ∧ c ≠ sb) w a0 0 l0) : Sb B (w.setCell ⟨sb, 20, none⟩ (.slice a0 l0.length cap0)) sb (st.setEls l0) := by
 obtain ⟨cs, h1, h2⟩ := h
 exact Sb.write _ _ (fun c hc => Below.heap_setCell w ⟨sb, 20, none⟩ _ c hc) (h1.set1 20 _) (h2.els hl hz)
end
end Go.Proofs.YtjmlmelcppbefaaGreatDoor
namespace Go.Proofs.YtjmlmelcppbefaaGreatDoor
open Go.RowKit Go.Maps
mutual
theorem ExL.bound {ok : Nat → Prop} {w : World} : ∀ {cs : List Value} {e : Ex}, ExL ok w cs e → ExL (fun c => ok c ∧ c < w.heap.size) w cs e
 | cs, .mk k n s sl lo o args, h => by
  unfold ExL at h ⊢
  obtain ⟨a, cap, h1, h2, h3⟩ := h
  exact ⟨a, cap, h1, h2, ExsL.bound h3⟩
theorem ExsL.bound {ok : Nat → Prop} {w : World} : ∀ {a : Option Addr} {i : Nat} {l : List Ex}, ExsL ok w a i l → ExsL (fun c => ok c ∧ c < w.heap.size) w a i l
 | _, _, [], _ => by unfold ExsL; trivial
 | a, i, e :: r, h => by
  unfold ExsL at h ⊢
  obtain ⟨⟨b, off, cs, h1, h2, h3, h4⟩, h5⟩ := h
  have hb : b < w.heap.size := by
   have h6 := h4
   obtain ⟨k, n, s, sl, lo, o, args⟩ := e
   unfold ExL at h6
   obtain ⟨_, _, rfl, _⟩ := h6
   exact World.block_lt_of_cellU w (h3 0 _ rfl)
  exact ⟨⟨b, off, cs, h1, ⟨h2, hb⟩, h3, ExL.bound h4⟩, ExsL.bound h5⟩
end
structure Bt (w0 w : World) (b z y : Nat) (S : Src) (l : Ex) (j : Nat) : Prop where
 ex : ∃ v0 v1 v2 v3 v4 v5 v6, Xc w y v0 v1 v2 v3 v4 v5 v6 ∧ ExL (fun c => w0.heap.size ≤ c ∧ c ≠ y ∧ c ≠ z) w [v0, v1, v2, v3, v4, v5, v6] l
 zz : Xc w z (.int .i64 0) (.int .i64 0) (.string ⟨#[]⟩) (.int .i64 0) (.bool false) (.int .i64 0) (.slice none 0 0)
 rd : Rw w b S j
 kp : Kp w0 w b b
theorem ex_put2 {B y z : Nat} {W : World} {x : Ex} {cs : List Value} (hX : ExL (fun c => B ≤ c ∧ c ≠ y ∧ c ≠ z) W cs x) (u0 u1 u2 u3 u4 u5 u6 : Value) : ExL (B ≤ ·) (set7 W z u0 u1 u2 u3 u4 u5 u6) cs x := by
 refine ExL.weak (fun c hc => (hc.1 : B ≤ c)) (ExL.keep (fun c o v hc hv => ?_) hX)
 rw [← hv]
 simp [World.cellU, World.cell?, World.frozen?, heap_set7 (W := W) hc.2.2 u0 u1 u2 u3 u4 u5 u6]
def atOf (w : World) (b : Nat) : Nat := match w.cell? ⟨b, 1, none⟩ with
 | some (.int _ k) => k.toNat
 | _ => 0
theorem atOf_rw {w : World} {b k : Nat} {S : Src} (h : Rw w b S k) : atOf w b = k := by unfold atOf; rw [h.c1]; simp
set_option maxRecDepth 100000 in
set_option maxHeartbeats 4000000 in
theorem expr_step {b : Nat} {S : Src} {f : Nat} (hb0 : b ≠ 0) (hU : CU b S f) (hE : ∀ g, g ≤ f → CE b S g) : CE b S (f + 1) := by
 intro w n k R hn h hO hR
 rw [pE] at hR
 have h0 := h.alloc (.cells #[.int .i64 0, .int .i64 0, .string ⟨#[]⟩, .int .i64 0, .bool false, .int .i64 0, .slice none 0 0] 46)
 have hz0 : Xc (w.alloc (.cells #[.int .i64 0, .int .i64 0, .string ⟨#[]⟩, .int .i64 0, .bool false, .int .i64 0, .slice none 0 0] 46)) w.heap.size (.int .i64 0) (.int .i64 0) (.string ⟨#[]⟩) (.int .i64 0) (.bool false) (.int .i64 0) (.slice none 0 0) := World.alloc_heap_new _ _
 have hk0 : Kp w (w.alloc (.cells #[.int .i64 0, .int .i64 0, .string ⟨#[]⟩, .int .i64 0, .bool false, .int .i64 0, .slice none 0 0] 46)) b b := kp_same ((Below.refl _ w).alloc (Nat.le_refl _) _)
 have hbw := h.lt
 have HH := Lib.hid h
 go_enter Tryz.func70, Tryz.ntmps70
 go_wp2_with fail
 generalize w.alloc (.cells #[.int .i64 0, .int .i64 0, .string ⟨#[]⟩, .int .i64 0, .bool false, .int .i64 0, .slice none 0 0] 46) = W0 at *
 rcases hx : pU S.T f k with _ | (j | ⟨x, j⟩)
 ·rw [hx] at hR
  cases hR
 ·rw [hx] at hR
  cases hR
  refine (hU W0 k _ h0 (hO.kp hk0 hb0) hx).mono ?_
  rintro e W1 ⟨hk1, rfl⟩
  exact ⟨rfl, hk0.trans hk1, rfl⟩
 ·rw [hx, andT_ok] at hR
  refine (hU W0 k _ h0 (hO.kp hk0 hb0) hx).mono ?_
  rintro e W1 ⟨hk1, ⟨cs, rfl, hX⟩, h1⟩
  obtain ⟨xk, xn, xs, xl, xo, xp, xa⟩ := x
  have hX0 := hX
  unfold ExL at hX
  obtain ⟨a, cap, rfl, hac, hXs⟩ := hX
  have hzl := hz0.lt
  have hs1 := hk1.size
  have hs0 := hk0.size
  have hB : Bt w (W1.alloc (.cells #[.int .i64 xk, .int .i64 xn, .string xs, .int .i64 xl, .bool xo, .int .i64 xp, .slice a xa.length cap] 46)) b w.heap.size W1.heap.size S (.mk xk xn xs xl xo xp xa) j := by
   refine ⟨⟨_, _, _, _, _, _, _, World.alloc_heap_new _ _, ?_⟩, (hz0.of (hk1.block _ hzl (by omega) (by omega))).alloc _, h1.alloc _, (hk0.trans hk1).alloc _⟩
   refine ExL.weak (fun c hc => ?_) (ExL.keep (fun c o v hc hv => ?_) hX0.bound)
   ·obtain ⟨hc1, hc2⟩ : W0.heap.size ≤ c ∧ c < W1.heap.size := hc
    exact ⟨by omega, by omega, by omega⟩
   ·have h2 := (World.grownBy_alloc W1 (.cells #[.int .i64 xk, .int .i64 xn, .string xs, .int .i64 xl, .bool xo, .int .i64 xp, .slice a xa.length cap] 46) none).block c (World.block_lt_of_cellU W1 hv) (by simp)
    rw [← hv]
    simp [World.cellU, World.cell?, World.frozen?, h2]
  go_wp2_with fail
  generalize hW2 : W1.alloc (.cells #[.int .i64 xk, .int .i64 xn, .string xs, .int .i64 xl, .bool xo, .int .i64 xp, .slice a xa.length cap] 46) = W2 at *
  clear hW2
  have hyz : W1.heap.size ≠ w.heap.size := by omega
  have hyw : w.heap.size ≤ W1.heap.size := by omega
  generalize hy : W1.heap.size = y at *
  clear hX0 hXs h1 hk1 hk0 hz0 h0 hy hzl hs1 hs0 hx
  have HB := Lib.hid hB
  have HR := Lib.hid hR
  clear hB hR
  go_loopw [6] (fun i wr => ∃ (g m j : Nat) (l : Ex), i = .int .i64 (m : Int) ∧ m ≤ 6 ∧ g ≤ f ∧ Hid (pL S.T g n m l j = some R) ∧ Hid (Bt w wr b w.heap.size y S l j)) (fun _ wr => S.T.length - atOf wr b)
  case atStart => exact ⟨f, 6, j, _, rfl, Nat.le_refl _, Nat.le_refl _, HR, HB⟩
  case round =>
   obtain ⟨g, m, j, l, rfl, hm6, hgf, HR, HB⟩ := hrel
   obtain ⟨g, rfl⟩ : ∃ g', g = g' + 1 := by
    cases g with
    | zero => exact absurd HR.out (by simp [pL])
    | succ g => exact ⟨g, rfl⟩
   have hR := HR.out
   rw [pL] at hR
   obtain ⟨⟨v0, v1, v2, v3, v4, v5, v6, hxy, hL⟩, hzz, hrd, hkp⟩ := HB.out
   obtain ⟨lk, ln, ls, ll, lo, lp, la⟩ := l
   obtain ⟨a2, cap2, hcs⟩ : ∃ a2 cap2, [v0, v1, v2, v3, v4, v5, v6] = [.int .i64 lk, .int .i64 ln, .string ls, .int .i64 ll, .bool lo, .int .i64 lp, .slice a2 la.length cap2] := by
    have h := hL
    unfold ExL at h
    obtain ⟨a2, cap2, h, -⟩ := h
    exact ⟨a2, cap2, h⟩
   cases hcs
   have ho := oper_any hrd (hO.kp hkp hb0)
   obtain ⟨o, hoo⟩ : ∃ o, opAt S.T j = o := ⟨_, rfl⟩
   obtain ⟨r, hr⟩ : ∃ r, rankOf o = r := ⟨_, rfl⟩
   rw [hoo, hr] at hR ho
   have HOO := Lib.hid (And.intro hoo hr)
   clear hoo hr
   have hk2 : ∀ w2, Below wr.heap.size wr w2 → Xc w2 y (.int .i64 lk) (.int .i64 ln) (.string ls) (.int .i64 ll) (.bool lo) (.int .i64 lp) (.slice a2 la.length cap2) ∧ Xc w2 w.heap.size (.int .i64 0) (.int .i64 0) (.string ⟨#[]⟩) (.int .i64 0) (.bool false) (.int .i64 0) (.slice none 0 0) ∧ Rw w2 b S j ∧ Kp w w2 b b ∧ ExL (fun c => w.heap.size ≤ c ∧ c ≠ y ∧ c ≠ w.heap.size) w2 [.int .i64 lk, .int .i64 ln, .string ls, .int .i64 ll, .bool lo, .int .i64 lp, .slice a2 la.length cap2] (.mk lk ln ls ll lo lp la) := fun w2 hb => by
    refine ⟨hxy.of (hb.block _ hxy.lt), hzz.of (hb.block _ hzz.lt), hrd.below hb, hkp.trans (kp_same hb), ExL.keep (fun c o v hc hv => ?_) hL⟩
    have h2 := hb.block c (World.block_lt_of_cellU wr hv)
    rw [← hv]
    simp [World.cellU, World.cell?, World.frozen?, h2]
   have HK := Lib.hid hk2
   clear hxy hL hzz hrd hkp hk2
   go_wp2_with fail
   refine ho.mono ?_
   rintro e w2 ⟨rfl, hb2⟩
   have HQ := Lib.hid (HK.out w2 hb2)
   by_cases hc : o = 0 ∨ r < n ∨ m < r
   ·rw [if_pos hc] at hR
    cases hR
    obtain ⟨hxy, hzz, -, -, -⟩ := HQ.out
    have y0 := hxy.c0
    have y1 := hxy.c1
    have y2 := hxy.c2
    have y3 := hxy.c3
    have y4 := hxy.c4
    have y5 := hxy.c5
    have y6 := hxy.c6
    have t0 := hzz.c0
    have t1 := hzz.c1
    have t2 := hzz.c2
    have t3 := hzz.c3
    have t4 := hzz.c4
    have t5 := hzz.c5
    have t6 := hzz.c6
    have f0 := hzz.frozen 0
    have f1 := hzz.frozen 1
    have f2 := hzz.frozen 2
    have f3 := hzz.frozen 3
    have f4 := hzz.frozen 4
    have f5 := hzz.frozen 5
    have f6 := hzz.frozen 6
    clear hxy hzz ho hb2 hU hE
    go_wp2_with fail
    all_goals first
     | (exfalso; omega)
     | (obtain ⟨hxy, hzz, hrd, hkp, hL⟩ := HQ.out; have hKV := kp_set7 hkp (z := w.heap.size) (Nat.le_refl _); refine end_ex (hzz.set _ _ _ _ _ _ _) rfl rfl rfl ⟨hKV _ _ _ _ _ _ _, ⟨_, rfl, ex_put2 hL _ _ _ _ _ _ _⟩, ?_⟩; exact HH.out.fin hrd (hKV _ _ _ _ _ _ _) (heap_set7 (by omega) _ _ _ _ _ _ _))
     | skip
   ·rw [if_neg hc] at hR
    have ho1 : ¬ (o = 0) := fun e => hc (.inl e)
    have ho2 : ((o : Int) == 0) = false := by simpa using ho1
    have ho3 : decide (r < n) = false := by simp; omega
    have ho4 : decide (m < r) = false := by simp; omega
    obtain ⟨hxy, hzz, hrd, hkp, hL⟩ := HQ.out
    have hjl : j < S.T.length := opAt_lt S.T (by rw [HOO.out.1]; exact ho1)
    have hmx := hrd.mx
    have c1 := hrd.c1
    have f1 := hrd.frozen 1
    have hyb : y ≠ b := by omega
    have hrd3 := hrd.step hjl
    have hxy3 : Xc (w2.setCell ⟨b, 1, none⟩ (.int .i64 ((j : Int) + 1))) y _ _ _ _ _ _ _ := hxy.of (Below.heap_setCell _ ⟨b, 1, none⟩ _ y hyb)
    have hk3 := hkp.setA 1 (.int .i64 ((j : Int) + 1))
    clear hxy hzz hrd hkp hL
    go_wp2_with fail
    have hS0 : Xc (w2.setCell ⟨b, 1, none⟩ (.int .i64 ((j : Int) + 1))).drew y (.int .i64 lk) (.int .i64 ln) (.string ls) (.int .i64 ll) (.bool lo) (.int .i64 lp) (.slice a2 la.length cap2) := hxy3
    refine wp_region_x [8] (fun W => Xc W y (.int .i64 lk) (.int .i64 ln) (.string ls) (.int .i64 ll) (.bool lo) (.int .i64 lp) (.slice a2 la.length cap2)) rfl ?_
    refine wpX_take 0 (v := ?v0) rfl (by kernel_rfl) (by kernel_rfl) (by kernel_rfl) (by kernel_rfl) (fun _ _ _ h => h) hS0 (Or.inl ⟨by kernel_rfl, ?h0⟩) ?_
    case h0 => (intro W1 hS1; have s0 := hS1.c0; have s1 := hS1.c1; have s2 := hS1.c2; have s3 := hS1.c3; have s4 := hS1.c4; have s5 := hS1.c5; have s6 := hS1.c6; go_simp; with_reducible rfl)
    refine wpX_take 1 (v := ?v1) rfl (by kernel_rfl) (by kernel_rfl) (by kernel_rfl) (by kernel_rfl) (fun _ _ _ h => h) hS0 (Or.inl ⟨by kernel_rfl, ?h1⟩) ?_
    case h1 => (intro W1 hS1; have s0 := hS1.c0; have s1 := hS1.c1; have s2 := hS1.c2; have s3 := hS1.c3; have s4 := hS1.c4; have s5 := hS1.c5; have s6 := hS1.c6; go_simp; with_reducible rfl)
    refine wpX_take 2 (v := ?v2) rfl (by kernel_rfl) (by kernel_rfl) (by kernel_rfl) (by kernel_rfl) (fun _ _ _ h => h) hS0 (Or.inl ⟨by kernel_rfl, ?h2⟩) ?_
    case h2 => (intro W1 hS1; have s0 := hS1.c0; have s1 := hS1.c1; have s2 := hS1.c2; have s3 := hS1.c3; have s4 := hS1.c4; have s5 := hS1.c5; have s6 := hS1.c6; go_simp; with_reducible rfl)
    refine wpX_take 3 (v := ?v3) rfl (by kernel_rfl) (by kernel_rfl) (by kernel_rfl) (by kernel_rfl) (fun _ _ _ h => h) hS0 (Or.inl ⟨by kernel_rfl, ?h3⟩) ?_
    case h3 => (intro W1 hS1; have s0 := hS1.c0; have s1 := hS1.c1; have s2 := hS1.c2; have s3 := hS1.c3; have s4 := hS1.c4; have s5 := hS1.c5; have s6 := hS1.c6; go_simp; with_reducible rfl)
    refine wpX_take 4 (v := ?v4) rfl (by kernel_rfl) (by kernel_rfl) (by kernel_rfl) (by kernel_rfl) (fun _ _ _ h => h) hS0 (Or.inl ⟨by kernel_rfl, ?h4⟩) ?_
    case h4 => (intro W1 hS1; have s0 := hS1.c0; have s1 := hS1.c1; have s2 := hS1.c2; have s3 := hS1.c3; have s4 := hS1.c4; have s5 := hS1.c5; have s6 := hS1.c6; go_simp; with_reducible rfl)
    refine wpX_one 5 (by kernel_rfl) rfl (fun K hK => ?_)
    go_simp
    have hrw : IntKind.i64.wrap ((r : Int) + 1) = ((r + 1 : Nat) : Int) := by
     have := rankOf_le o
     rw [HOO.out.2] at this
     rw [IntKind.wrap_i64]
     omega
    rw [hrw]
    have hr7 : r + 1 ≤ 7 := by
     have := rankOf_le o
     rw [HOO.out.2] at this
     omega
    have hrd4 : Rw (w2.setCell ⟨b, 1, none⟩ (.int .i64 ((j : Int) + 1))).drew b S (j + 1) := ⟨hrd3.hd, hrd3.wds, hrd3.ne, hrd3.le, hrd3.mx⟩
    have hk4 := hk3.drew
    rcases hx : pE S.T g (r + 1) (j + 1) with _ | (j2 | ⟨x, j2⟩)
    ·rw [hx] at hR
     cases hR
    ·rw [hx] at hR
     cases hR
     refine (hE g (by omega) _ (r + 1) (j + 1) _ hr7 hrd4 (hO.kp hk4 hb0) hx).mono ?_
     rintro e w5 ⟨hk5, rfl⟩
     exact ⟨rfl, hk4.trans hk5, rfl⟩
    ·rw [hx, andT_ok] at hR
     refine (hE g (by omega) _ (r + 1) (j + 1) _ hr7 hrd4 (hO.kp hk4 hb0) hx).mono ?_
     rintro e w5 ⟨hk5, ⟨cs, rfl, hX⟩, h5⟩
     obtain ⟨qk, qn, qs, ql, qo, qp, qa⟩ := x
     have hX0 := hX
     unfold ExL at hX
     obtain ⟨a3, cap3, rfl, hac3, hXs3⟩ := hX
     have hS5 := hS0.of (hk5.block y hS0.lt hyb hyb)
     refine hK _ _ (fun _ => hS5) ?_
     clear hK K
     refine wpX_one 6 (by kernel_rfl) rfl (fun K hK => ?_)
     go_simp
     have hs5 := hk5.size
     have hsd : (w2.setCell ⟨b, 1, none⟩ (.int .i64 ((j : Int) + 1))).drew.heap.size = w2.heap.size := by simp [World.drew, World.setCell]
     have hyl2 : y < w2.heap.size := HQ.out.1.lt
     have hzl2 : w.heap.size < w2.heap.size := HQ.out.2.1.lt
     rw [hsd] at hs5
     have hsets : ∀ c, c ≠ b → (w2.setCell ⟨b, 1, none⟩ (.int .i64 ((j : Int) + 1))).drew.heap[c]? = w2.heap[c]? := fun c hc => Below.heap_setCell w2 ⟨b, 1, none⟩ _ c hc
     have h25 : ∀ c, c < w2.heap.size → c ≠ b → w5.heap[c]? = w2.heap[c]? := fun c hc hcb => (hk5.block c (by rw [hsd]; exact hc) hcb hcb).trans (hsets c hcb)
     have hA : ExL (fun c => w.heap.size ≤ c ∧ c ≠ y ∧ c ≠ w.heap.size) w5 [.int .i64 lk, .int .i64 ln, .string ls, .int .i64 ll, .bool lo, .int .i64 lp, .slice a2 la.length cap2] (.mk lk ln ls ll lo lp la) :=
      ExL.keep (fun c o v hc hv => by
       rw [← hv]
       simp [World.cellU, World.cell?, World.frozen?, h25 c (World.block_lt_of_cellU w2 hv) (by have := hc.1; omega)]) HQ.out.2.2.2.2
     have hX5 : ExL (fun c => w.heap.size ≤ c ∧ c ≠ y ∧ c ≠ w.heap.size) w5 [.int .i64 qk, .int .i64 qn, .string qs, .int .i64 ql, .bool qo, .int .i64 qp, .slice a3 qa.length cap3] (.mk qk qn qs ql qo qp qa) :=
      ExL.weak (fun c hc => by
       have hc1 : (w2.setCell ⟨b, 1, none⟩ (.int .i64 ((j : Int) + 1))).drew.heap.size ≤ c := hc
       rw [hsd] at hc1
       exact ⟨by omega, by omega, by omega⟩) hX0
     have hT := two_args hA hX5 (show w.heap.size ≤ w5.heap.size ∧ w5.heap.size ≠ y ∧ w5.heap.size ≠ w.heap.size from ⟨by omega, by omega, by omega⟩) o
     have hZ5 : Xc w5 w.heap.size (.int .i64 0) (.int .i64 0) (.string ⟨#[]⟩) (.int .i64 0) (.bool false) (.int .i64 0) (.slice none 0 0) := HQ.out.2.1.of (h25 _ hzl2 (by omega))
     have hk05 := hk4.trans hk5
     have hadv := pE_adv S.T (show j + 1 ≤ S.T.length from hjl) hx
     have hS6 := hS5.alloc (.cells #[.int .i64 lk, .int .i64 ln, .string ls, .int .i64 ll, .bool lo, .int .i64 lp, .slice a2 la.length cap2, .int .i64 qk, .int .i64 qn, .string qs, .int .i64 ql, .bool qo, .int .i64 qp, .slice a3 qa.length cap3] 46)
     have hZ6 := hZ5.alloc (.cells #[.int .i64 lk, .int .i64 ln, .string ls, .int .i64 ll, .bool lo, .int .i64 lp, .slice a2 la.length cap2, .int .i64 qk, .int .i64 qn, .string qs, .int .i64 ql, .bool qo, .int .i64 qp, .slice a3 qa.length cap3] 46)
     have h6 := h5.alloc (.cells #[.int .i64 lk, .int .i64 ln, .string ls, .int .i64 ll, .bool lo, .int .i64 lp, .slice a2 la.length cap2, .int .i64 qk, .int .i64 qn, .string qs, .int .i64 ql, .bool qo, .int .i64 qp, .slice a3 qa.length cap3] 46)
     have hk06 := hk05.alloc (.cells #[.int .i64 lk, .int .i64 ln, .string ls, .int .i64 ll, .bool lo, .int .i64 lp, .slice a2 la.length cap2, .int .i64 qk, .int .i64 qn, .string qs, .int .i64 ql, .bool qo, .int .i64 qp, .slice a3 qa.length cap3] 46)
     generalize hW6 : w5.alloc (.cells #[.int .i64 lk, .int .i64 ln, .string ls, .int .i64 ll, .bool lo, .int .i64 lp, .slice a2 la.length cap2, .int .i64 qk, .int .i64 qn, .string qs, .int .i64 ql, .bool qo, .int .i64 qp, .slice a3 qa.length cap3] 46) = W6 at *
     generalize w5.heap.size = q5 at *
     have hB : Bt w (set7 W6 y (.int .i64 6) (.int .i64 0) (.string noB) (.int .i64 0) (.bool false) (.int .i64 (o : Int)) (.slice (some ⟨q5, 0, none⟩) 2 2)) b w.heap.size y S (exBin o (.mk lk ln ls ll lo lp la) (.mk qk qn qs ql qo qp qa)) j2 := by
      have hKV := kp_set7 hk06 (z := y) hyw (.int .i64 6) (.int .i64 0) (.string noB) (.int .i64 0) (.bool false) (.int .i64 (o : Int)) (.slice (some ⟨q5, 0, none⟩) 2 2)
      refine ⟨⟨_, _, _, _, _, _, _, hS6.set _ _ _ _ _ _ _, ExL.keep (fun c o v hc hv => ?_) hT⟩, hZ6.of (heap_set7 (Ne.symm hyz) _ _ _ _ _ _ _), HH.out.fin h6 hKV (heap_set7 (Ne.symm hyb) _ _ _ _ _ _ _), hKV⟩
      rw [← hv]
      simp only [World.cellU, World.cell?, World.frozen?]
      rw [heap_set7 hc.2.1]
     have HB2 := Lib.hid hB
     have HR2 := Lib.hid hR
     have HJ := Lib.hid hadv
     have hat := atOf_rw hB.rd
     have hatr : atOf wr b = j := atOf_rw HB.out.rd
     clear hB hR hT hA hX5 hX0 hXs3 hZ5 hZ6 h6 hk06 hk05 h25 hsets hk5 h5 hx hadv hrd4 hk4 hS5 hS0
     refine hK _ _ (fun _ => hS6) ?_
     clear hK K
     refine wpX_one 7 (by kernel_rfl) rfl (fun K hK => ?_)
     go_simp
     refine hK _ _ (fun _ => hS6) ?_
     clear hK K
     refine wpX_one 8 (by kernel_rfl) rfl (fun K hK => ?_)
     have s0 := hS6.c0
     have s1 := hS6.c1
     have s2 := hS6.c2
     have s3 := hS6.c3
     have s4 := hS6.c4
     have s5 := hS6.c5
     have s6 := hS6.c6
     have f0 := hS6.frozen 0
     have f1 := hS6.frozen 1
     have f2 := hS6.frozen 2
     have f3 := hS6.frozen 3
     have f4 := hS6.frozen 4
     have f5 := hS6.frozen 5
     have f6 := hS6.frozen 6
     go_simp
     refine hK _ _ (fun h => absurd h (by decide)) ?_
     clear hK K s0 s1 s2 s3 s4 s5 s6 f0 f1 f2 f3 f4 f5 f6 hS6
     have HB3 : Hid (Bt w (set7 W6 y (.int .i64 6) (.int .i64 0) (.string ⟨#[]⟩) (.int .i64 0) (.bool false) (.int .i64 (o : Int)) (.slice (some ⟨q5, 0, none⟩) 2 2)) b w.heap.size y S (exBin o (.mk lk ln ls ll lo lp la) (.mk qk qn qs ql qo qp qa)) j2) := HB2
     simp only [set7] at HB3
     clear HB2
     change atOf (set7 W6 y (.int .i64 6) (.int .i64 0) (.string ⟨#[]⟩) (.int .i64 0) (.bool false) (.int .i64 (o : Int)) (.slice (some ⟨q5, 0, none⟩) 2 2)) b = j2 at hat
     simp only [set7] at hat
     generalize ((((((W6.setCell ⟨y, 0, none⟩ (.int .i64 6)).setCell ⟨y, 1, none⟩ (.int .i64 0)).setCell ⟨y, 2, none⟩ (.string ⟨#[]⟩)).setCell ⟨y, 3, none⟩ (.int .i64 0)).setCell ⟨y, 4, none⟩ (.bool false)).setCell ⟨y, 5, none⟩ (.int .i64 (o : Int))).setCell ⟨y, 6, none⟩ (.slice (some ⟨q5, 0, none⟩) 2 2) = W8 at *
     refine wpX_done (by kernel_rfl) ?_ _
     have hnm : nextM r ≤ 6 := by unfold nextM; split <;> omega
     by_cases hr3 : r = 3
     ·subst hr3
      rename_i ha
      go_simp
      refine ha _ _ ?_
      clear ha
      go_wp2_with fail
      exact ⟨⟨g, 2, j2, _, rfl, by decide, by omega, HR2, HB3⟩, by rw [hat, hatr]; have := HJ.out; omega⟩
     ·have hr3' : ¬ ((r : Int) = 3) := by omega
      have hnx : nextM r = r := by unfold nextM; rw [if_neg hr3]
      rw [hnx] at HR2
      rename_i ha
      go_simp
      refine ha _ _ ?_
      clear ha
      go_wp2_with fail
      exact ⟨⟨g, r, j2, _, rfl, by omega, by omega, HR2, HB3⟩, by rw [hat, hatr]; have := HJ.out; omega⟩
theorem expr_all {b : Nat} {S : Src} (hb0 : b ≠ 0) : ∀ f, CU b S f ∧ CP b S f ∧ (∀ g, g ≤ f → CE b S g) := by
 intro f
 induction f with
 | zero =>
  refine ⟨fun w k R h hO hR => ?_, fun w k R h hO hR => ?_, fun g hg => ?_⟩
  ·rw [pU_zero] at hR
   cases hR
  ·rw [pP_zero] at hR
   cases hR
  ·obtain rfl : g = 0 := by omega
   intro w n k R hn h hO hR
   rw [pE_zero] at hR
   cases hR
 | succ f ih =>
  obtain ⟨hU, hP, hE⟩ := ih
  refine ⟨unary_step hb0 hU hP, prim_step hb0 (hE f (Nat.le_refl _)), fun g hg => ?_⟩
  by_cases h : g ≤ f
  ·exact hE g h
  ·obtain rfl : g = f + 1 := by omega
   exact expr_step hb0 hU hE
theorem expr_any {w : World} {b k : Nat} {S : Src} (hb0 : b ≠ 0) (h : Rw w b S k) (hO : Ops w) {R : Except Nat (Ex × Nat)} (hR : pX S.T k = some R) :
  Calls Tryz.prog 70 #[.pointer (some ⟨b, 0, none⟩), .int .i64 1] w (WP w b S R (exOk w)) := (expr_all hb0 (4 * S.T.length + 4)).2.2 _ (Nat.le_refl _) w 1 k R (by decide) h hO hR
end Go.Proofs.YtjmlmelcppbefaaGreatDoor
namespace Go.Proofs.YtjmlmelcppbefaaGreatDoor
open Go.RowKit Go.Maps
def SP (w : World) (b sb B : Nat) (S : Src) (R : Except Nat (St × Nat)) (e : Ending) (w' : World) : Prop :=
 Kp w w' b sb ∧ match R with
  | .ok (st, j) => e = .returned (.tuple #[]) ∧ Sb B w' sb st ∧ Rw w' b S j
  | .error j => e = .panicked [flawM S j]
def Away (S : Src) (sb : Nat) : Prop := ∀ g o, S.a = some ⟨g, o, none⟩ → 0 < S.T.length → g ≠ sb
theorem Rw.away {w : World} {b k sb : Nat} {S : Src} (h : Rw w b S k) (hs : w.heap.size ≤ sb) : Away S sb := fun g o hg hl => by
 obtain ⟨g', off, hl', h0, -⟩ := h.wds 0 hl
 rw [hg] at hl'
 cases hl'
 have h1 : g < w.heap.size := World.block_lt_of_cell? w _ h0
 omega
def PartOk (b : Nat) (S : Src) (f : FuncId) (g : St → Nat → PR St) : Prop := ∀ (w : World) (B sb k : Nat) (st : St) (R : Except Nat (St × Nat)), Rw w b S k → Ops w → Away S sb → b < B → B ≤ sb → Sb B w sb st → g st k = some R →
 Calls Tryz.prog f #[.pointer (some ⟨b, 0, none⟩), .pointer (some ⟨sb, 0, none⟩)] w (SP w b sb B S R)
def gName (T : List Wd) (st : St) (k : Nat) : PR St := andT (pName T k) fun s j => some (.ok (st.setName s, j))
def gWith (T : List Wd) (st : St) (k : Nat) : PR St := andT (pName T k) fun s j => some (.ok (st.setWith s, j))
def gExpr (T : List Wd) (st : St) (k : Nat) : PR St := andT (pX T k) fun x j => some (.ok (st.setExpr x, j))
def gIs (T : List Wd) (st : St) (k : Nat) : PR St := andT (want T sEq k) fun _ j => some (.ok (st, j))
theorem info46 : (Tryz.prog.info? 46).map (·.size) = some 7 := by kernel_rfl
theorem info64 : (Tryz.prog.info? 64).map (·.size) = some 25 := by kernel_rfl
theorem Rw.put {w W V : World} {b k j : Nat} {S : Src} (h : Rw w b S k) (h3 : Rw W b S j) {sb : Nat} (hK : Kp w V b sb) (hb : V.heap[b]? = W.heap[b]?) (hs : Away S sb) : Rw V b S j := by
 refine ⟨hb.trans h3.hd, ?_, h3.ne, h3.le, h3.mx⟩
 intro i hi
 obtain ⟨g, off, hl, h0, h1, h2, h4, h5⟩ := h.wds i hi
 have hlt := World.block_lt_of_cell? w _ h0
 have hc : ∀ o, V.cell? ⟨g, o, none⟩ = w.cell? ⟨g, o, none⟩ := fun o => by simp [World.cell?, hK.block g hlt (h.ne g off hl) (hs g off hl (by omega))]
 exact ⟨g, off, hl, (hc _).trans h0, (hc _).trans h1, (hc _).trans h2, (hc _).trans h4, (hc _).trans h5⟩
theorem Rw.setO {w : World} {b k sb : Nat} {S : Src} (h : Rw w b S k) (hne : b ≠ sb) (hs : Away S sb) (o : Nat) (u : Value) : Rw (w.setCell ⟨sb, o, none⟩ u) b S k :=
 h.put h ((Kp.refl w b sb).setB o u) (Below.heap_setCell w ⟨sb, o, none⟩ u b hne) hs
theorem Rw.setOs {w : World} {b k sb : Nat} {S : Src} (h : Rw w b S k) (hne : b ≠ sb) (hs : Away S sb) (o : Nat) (vs : List Value) : Rw (w.setCells sb o vs) b S k :=
 h.put h (Kp.setCellsB vs o (Kp.refl w b sb)) (heap_setCells hne vs o w) hs
theorem ExL.part {W w : World} {B sb : Nat} {cs : List Value} {x : Ex} (h : ExL (W.heap.size ≤ ·) w cs x) (hB : B ≤ sb) (hl : sb < W.heap.size) : ExL (fun c => B ≤ c ∧ c ≠ sb) w cs x :=
 ExL.weak (fun c hc => by
  have : W.heap.size ≤ c := hc
  exact ⟨by omega, by omega⟩) h
set_option maxRecDepth 100000 in
theorem part_name {b : Nat} {S : Src} : PartOk b S 66 (gName S.T) := by
 intro w B sb k st R h hO hA hb hB hs hR
 unfold gName at hR
 go_enter Tryz.func66, Tryz.ntmps66
 go_wp2_with fail
 rcases hn : pName S.T k with _ | (j | ⟨nm, j⟩)
 ·rw [hn] at hR
  cases hR
 ·rw [hn] at hR
  cases hR
  refine (name_rd h hn).mono ?_
  rintro e W1 ⟨hk1, rfl⟩
  exact ⟨rfl, hk1.widen, rfl⟩
 ·rw [hn] at hR
  cases hR
  refine (name_rd h hn).mono ?_
  rintro e W1 ⟨hk1, rfl, h1⟩
  have hs1 := hs.kp hk1 hb hB
  obtain ⟨v, c3⟩ := hs1.cell (j := 3) (by decide)
  have f3 := hs1.frozen 3
  have hne : b ≠ sb := by omega
  have HE := Lib.hid (And.intro hs1 (And.intro h1 hk1))
  clear hs1 h1 hk1 h hs hn
  go_wp2_with fail
  go_end0
  obtain ⟨hs1, h1, hk1⟩ := HE.out
  exact ⟨hk1.widen.setB _ _, rfl, hs1.name _, h1.setO hne hA _ _⟩
set_option maxRecDepth 100000 in
theorem part_with {b : Nat} {S : Src} : PartOk b S 68 (gWith S.T) := by
 intro w B sb k st R h hO hA hb hB hs hR
 unfold gWith at hR
 go_enter Tryz.func68, Tryz.ntmps68
 go_wp2_with fail
 rcases hn : pName S.T k with _ | (j | ⟨nm, j⟩)
 ·rw [hn] at hR
  cases hR
 ·rw [hn] at hR
  cases hR
  refine (name_rd h hn).mono ?_
  rintro e W1 ⟨hk1, rfl⟩
  exact ⟨rfl, hk1.widen, rfl⟩
 ·rw [hn] at hR
  cases hR
  refine (name_rd h hn).mono ?_
  rintro e W1 ⟨hk1, rfl, h1⟩
  have hs1 := hs.kp hk1 hb hB
  obtain ⟨v, c3⟩ := hs1.cell (j := 4) (by decide)
  have f3 := hs1.frozen 4
  have hne : b ≠ sb := by omega
  have HE := Lib.hid (And.intro hs1 (And.intro h1 hk1))
  clear hs1 h1 hk1 h hs hn
  go_wp2_with fail
  go_end0
  obtain ⟨hs1, h1, hk1⟩ := HE.out
  exact ⟨hk1.widen.setB _ _, rfl, hs1.wth _, h1.setO hne hA _ _⟩
set_option maxRecDepth 100000 in
theorem part_expr {b : Nat} {S : Src} (hb0 : b ≠ 0) : PartOk b S 69 (gExpr S.T) := by
 intro w B sb k st R h hO hA hb hB hs hR
 unfold gExpr at hR
 go_enter Tryz.func69, Tryz.ntmps69
 go_wp2_with fail
 rcases hn : pX S.T k with _ | (j | ⟨x, j⟩)
 ·rw [hn] at hR
  cases hR
 ·rw [hn] at hR
  cases hR
  refine (expr_any hb0 h hO hn).mono ?_
  rintro e W1 ⟨hk1, rfl⟩
  exact ⟨rfl, hk1.widen, rfl⟩
 ·rw [hn] at hR
  cases hR
  refine (expr_any hb0 h hO hn).mono ?_
  rintro e W1 ⟨hk1, ⟨cs, rfl, hX⟩, h1⟩
  have hs1 := hs.kp hk1 hb hB
  have hr := st_run (hs1.there (o := 5) (n := 7) (by decide)) hX.cells.1 hX.cells.2
  have hl := hX.cells.1
  have hne : b ≠ sb := by omega
  have HE := Lib.hid (And.intro hs1 (And.intro h1 (And.intro hk1 (hX.part hB hs.lt))))
  clear hs1 h1 hk1 h hs hn hX
  go_wp2_with fail
  go_end0
  obtain ⟨hs1, h1, hk1, hX⟩ := HE.out
  exact ⟨Kp.setCellsB _ _ hk1.widen, rfl, hs1.expr hX, h1.setOs hne hA _ _⟩
set_option maxRecDepth 100000 in
theorem part_is {b : Nat} {S : Src} : PartOk b S 71 (gIs S.T) := by
 intro w B sb k st R h hO hA hb hB hs hR
 unfold gIs at hR
 go_enter Tryz.func71, Tryz.ntmps71
 go_wp2_with fail
 rcases hn : want S.T sEq k with _ | (j | ⟨u, j⟩)
 ·rw [hn] at hR
  cases hR
 ·rw [hn] at hR
  cases hR
  refine (want_any h sEq hn).mono ?_
  rintro e W1 ⟨hk1, rfl⟩
  exact ⟨rfl, hk1.widen, rfl⟩
 ·rw [hn] at hR
  cases hR
  refine (want_any h sEq hn).mono ?_
  rintro e W1 ⟨hk1, rfl, h1⟩
  have hs1 := hs.kp hk1 hb hB
  go_wp2_with fail
  go_end0
  exact ⟨hk1.widen, rfl, hs1, h1⟩
end Go.Proofs.YtjmlmelcppbefaaGreatDoor
namespace Go.Proofs.YtjmlmelcppbefaaGreatDoor
open Go.RowKit Go.Maps
theorem Ops.kp2 {w w' : World} {b sb : Nat} (h : Ops w) (hk : Kp w w' b sb) (hb : b ≠ 0) (hs : sb ≠ 0) : Ops w' := fun j hj => by
 have h1 := h j hj
 have h2 := hk.block 0 (World.block_lt_of_cell? w _ h1) (Ne.symm hb) (Ne.symm hs)
 rw [← h1]
 simp [World.cell?, h2]
theorem ex_keep {B sb : Nat} {W : World} {cs : List Value} {x : Ex} (h : ExL (fun c => B ≤ c ∧ c ≠ sb) W cs x) (o : Nat) (u : Value) : ExL (fun c => B ≤ c ∧ c ≠ sb) (W.setCell ⟨sb, o, none⟩ u) cs x :=
 ExL.keep (fun d p v hd hv => by
  rw [← hv]
  exact World.cellU_setCell_far W ⟨sb, o, none⟩ ⟨d, p, none⟩ u (Ne.symm hd.2)) h
def gEnd (T : List Wd) (st : St) (k : Nat) : PR St := andT (want T sSemi k) fun _ j => some (.ok (st, j))
def gLast (T : List Wd) (st : St) (k : Nat) : PR St := andT (want T sEq k) fun _ m => andT (pX T m) fun x j => gEnd T (st.setExpr x) j
def gAssign (T : List Wd) (st : St) (k : Nat) : PR St := andT (pName T k) fun s j =>
 if isT T j sBrO = true then andT (pX T (j + 1)) fun y m => andT (want T sBrS m) fun _ n => gLast T ((((st.setKind 2).setName s).setKind 3).setIndex y) n
 else gLast T ((st.setKind 2).setName s) j
theorem assign_eq (T : List Wd) (p : Int × Int) (k : Nat) : gAssign T (mkSt 0 p noB noB zEx zEx [] []) k = pAssign T p k := by
 unfold gAssign pAssign
 congr 1
set_option maxRecDepth 100000 in
set_option maxHeartbeats 4000000 in
theorem assign_part {b : Nat} {S : Src} (hb0 : b ≠ 0) : PartOk b S 148 (gAssign S.T) := by
 intro w B sb k st R h hO hA hb hB hs hR
 unfold gAssign gLast gEnd at hR
 have hne : b ≠ sb := by omega
 have hs0 : sb ≠ 0 := by omega
 go_enter Tryz.func148, Tryz.ntmps148
 go_wp2_with fail
 rcases hx1 : pName S.T k with _ | (j1 | ⟨x1, j1⟩)
 ·rw [hx1] at hR
  cases hR
 ·rw [hx1] at hR
  cases hR
  refine (name_rd h hx1).mono ?_
  rintro e W1 ⟨hk1, rfl⟩
  exact ⟨rfl, (Kp.refl w b sb).trans hk1.widen, rfl⟩
 rw [hx1, andT_ok] at hR
 refine (name_rd h hx1).mono ?_
 rintro e W1 ⟨hk1, rfl, h1⟩
 have hs1 := hs.kp hk1 hb hB
 have hK1 := (Kp.refl w b sb).trans (hk1.widen (b := sb))
 obtain ⟨v0, c0⟩ := hs1.cell (j := 0) (by decide)
 have f0 := hs1.frozen 0
 obtain ⟨v3, c3⟩ := hs1.cell (j := 3) (by decide)
 have f3 := hs1.frozen 3
 have hs2 := hs1
 have h2 := h1
 have hK2 := hK1
 replace hs2 := hs2.kind 2
 replace h2 := h2.setO hne hA 0 (.int .i64 2)
 replace hK2 := hK2.setB 0 (.int .i64 2)
 replace hs2 := hs2.name x1
 replace h2 := h2.setO hne hA 3 (.string x1)
 replace hK2 := hK2.setB 3 (.string x1)
 have HE := Lib.hid (And.intro hs2 (And.intro h2 hK2))
 clear hs2 h2 hK2
 clear hs hk1 hx1 h1 hs1 hK1
 go_wp2_with fail
 clear c0 f0 c3 f3
 obtain ⟨hs2, h2, hK2⟩ := HE.out
 clear HE
 generalize ((W1.setCell ⟨sb, 0, none⟩ (.int .i64 2)).setCell ⟨sb, 3, none⟩ (.string x1)) = W2 at *
 refine (accept_any h2 sBrO).mono ?_
 rintro e W3 ⟨hk3, rfl, h3⟩
 have hs3 := hs2.kp hk3 hb hB
 have hK3 := hK2.trans (hk3.widen (b := sb))
 obtain ⟨m, hm⟩ : ∃ m, isT S.T j1 sBrO = m := ⟨_, rfl⟩
 rw [hm] at hR h3
 rw [hm]
 clear hm hk3 h2 hs2 hK2
 cases m
 ·rw [if_neg Bool.false_ne_true] at hR h3
  go_wp2_with fail
  rcases hx4 : want S.T sEq j1 with _ | (j4 | ⟨x4, j4⟩)
  ·rw [hx4] at hR
   cases hR
  ·rw [hx4] at hR
   cases hR
   refine (want_any h3 sEq hx4).mono ?_
   rintro e W4 ⟨hk4, rfl⟩
   exact ⟨rfl, hK3.trans hk4.widen, rfl⟩
  rw [hx4, andT_ok] at hR
  refine (want_any h3 sEq hx4).mono ?_
  rintro e W4 ⟨hk4, rfl, h4⟩
  have hs4 := hs3.kp hk4 hb hB
  have hK4 := hK3.trans (hk4.widen (b := sb))
  clear h3 hs3 hK3 hk4 hx4
  go_wp2_with fail
  rcases hx5 : pX S.T j4 with _ | (j5 | ⟨x5, j5⟩)
  ·rw [hx5] at hR
   cases hR
  ·rw [hx5] at hR
   cases hR
   refine (expr_any hb0 h4 (hO.kp2 hK4 hb0 hs0) hx5).mono ?_
   rintro e W5 ⟨hk5, rfl⟩
   exact ⟨rfl, hK4.trans hk5.widen, rfl⟩
  rw [hx5, andT_ok] at hR
  refine (expr_any hb0 h4 (hO.kp2 hK4 hb0 hs0) hx5).mono ?_
  rintro e W5 ⟨hk5, ⟨cs, rfl, hX⟩, h5⟩
  have hs5 := hs4.kp hk5 hb hB
  have hK5 := hK4.trans (hk5.widen (b := sb))
  have hX5 := hX.part hB hs4.lt
  clear hX
  have hs6 := hs5
  have h6 := h5
  have hK6 := hK5
  have hr6 := st_run (hs6.there (o := 5) (n := 7) (by decide)) hX5.cells.1 hX5.cells.2
  have hl6 := hX5.cells.1
  replace hs6 := hs6.expr hX5
  replace h6 := h6.setOs hne hA 5 cs
  replace hK6 := Kp.setCellsB cs 5 hK6
  have HE := Lib.hid (And.intro hs6 (And.intro h6 hK6))
  clear hs6 h6 hK6
  clear h4 hs4 hK4 hk5 hx5 h5 hs5 hK5
  clear hX5
  go_wp2_with fail
  clear hr6 hl6
  obtain ⟨hs6, h6, hK6⟩ := HE.out
  clear HE
  generalize (W5.setCells sb 5 cs) = W6 at *
  rcases hx7 : want S.T sSemi j5 with _ | (j7 | ⟨x7, j7⟩)
  ·rw [hx7] at hR
   cases hR
  ·rw [hx7] at hR
   cases hR
   refine (want_any h6 sSemi hx7).mono ?_
   rintro e W7 ⟨hk7, rfl⟩
   exact ⟨rfl, hK6.trans hk7.widen, rfl⟩
  rw [hx7, andT_ok] at hR
  refine (want_any h6 sSemi hx7).mono ?_
  rintro e W7 ⟨hk7, rfl, h7⟩
  have hs7 := hs6.kp hk7 hb hB
  have hK7 := hK6.trans (hk7.widen (b := sb))
  cases hR
  clear h6 hs6 hK6 hk7 hx7
  go_wp2_with fail
  go_end0
  exact ⟨hK7, rfl, hs7, h7⟩
 ·rw [if_pos rfl] at hR h3
  go_wp2_with fail
  rcases hx4 : pX S.T (j1 + 1) with _ | (j4 | ⟨x4, j4⟩)
  ·rw [hx4] at hR
   cases hR
  ·rw [hx4] at hR
   cases hR
   refine (expr_any hb0 h3 (hO.kp2 hK3 hb0 hs0) hx4).mono ?_
   rintro e W4 ⟨hk4, rfl⟩
   exact ⟨rfl, hK3.trans hk4.widen, rfl⟩
  rw [hx4, andT_ok] at hR
  refine (expr_any hb0 h3 (hO.kp2 hK3 hb0 hs0) hx4).mono ?_
  rintro e W4 ⟨hk4, ⟨cs, rfl, hX⟩, h4⟩
  have hs4 := hs3.kp hk4 hb hB
  have hK4 := hK3.trans (hk4.widen (b := sb))
  have hX4 := hX.part hB hs3.lt
  clear hX
  obtain ⟨v0, c0⟩ := hs4.cell (j := 0) (by decide)
  have f0 := hs4.frozen 0
  have hs5 := hs4
  have h5 := h4
  have hK5 := hK4
  replace hs5 := hs5.kind 3
  replace h5 := h5.setO hne hA 0 (.int .i64 3)
  replace hK5 := hK5.setB 0 (.int .i64 3)
  have hr5 := st_run (hs5.there (o := 12) (n := 7) (by decide)) hX4.cells.1 hX4.cells.2
  have hl5 := hX4.cells.1
  have hX5 := ex_keep hX4 0 (.int .i64 3)
  replace hs5 := hs5.index hX5
  replace h5 := h5.setOs hne hA 12 cs
  replace hK5 := Kp.setCellsB cs 12 hK5
  have HE := Lib.hid (And.intro hs5 (And.intro h5 hK5))
  clear hs5 h5 hK5
  clear h3 hs3 hK3 hk4 hx4 h4 hs4 hK4
  clear hX4
  go_wp2_with fail
  clear c0 f0 hr5 hl5 hX5
  obtain ⟨hs5, h5, hK5⟩ := HE.out
  clear HE
  generalize ((W4.setCell ⟨sb, 0, none⟩ (.int .i64 3)).setCells sb 12 cs) = W5 at *
  rcases hx6 : want S.T sBrS j4 with _ | (j6 | ⟨x6, j6⟩)
  ·rw [hx6] at hR
   cases hR
  ·rw [hx6] at hR
   cases hR
   refine (want_any h5 sBrS hx6).mono ?_
   rintro e W6 ⟨hk6, rfl⟩
   exact ⟨rfl, hK5.trans hk6.widen, rfl⟩
  rw [hx6, andT_ok] at hR
  refine (want_any h5 sBrS hx6).mono ?_
  rintro e W6 ⟨hk6, rfl, h6⟩
  have hs6 := hs5.kp hk6 hb hB
  have hK6 := hK5.trans (hk6.widen (b := sb))
  clear h5 hs5 hK5 hk6 hx6
  go_wp2_with fail
  rcases hx7 : want S.T sEq j6 with _ | (j7 | ⟨x7, j7⟩)
  ·rw [hx7] at hR
   cases hR
  ·rw [hx7] at hR
   cases hR
   refine (want_any h6 sEq hx7).mono ?_
   rintro e W7 ⟨hk7, rfl⟩
   exact ⟨rfl, hK6.trans hk7.widen, rfl⟩
  rw [hx7, andT_ok] at hR
  refine (want_any h6 sEq hx7).mono ?_
  rintro e W7 ⟨hk7, rfl, h7⟩
  have hs7 := hs6.kp hk7 hb hB
  have hK7 := hK6.trans (hk7.widen (b := sb))
  clear h6 hs6 hK6 hk7 hx7
  go_wp2_with fail
  rcases hx8 : pX S.T j7 with _ | (j8 | ⟨x8, j8⟩)
  ·rw [hx8] at hR
   cases hR
  ·rw [hx8] at hR
   cases hR
   refine (expr_any hb0 h7 (hO.kp2 hK7 hb0 hs0) hx8).mono ?_
   rintro e W8 ⟨hk8, rfl⟩
   exact ⟨rfl, hK7.trans hk8.widen, rfl⟩
  rw [hx8, andT_ok] at hR
  refine (expr_any hb0 h7 (hO.kp2 hK7 hb0 hs0) hx8).mono ?_
  rintro e W8 ⟨hk8, ⟨cs, rfl, hX⟩, h8⟩
  have hs8 := hs7.kp hk8 hb hB
  have hK8 := hK7.trans (hk8.widen (b := sb))
  have hX8 := hX.part hB hs7.lt
  clear hX
  have hs9 := hs8
  have h9 := h8
  have hK9 := hK8
  have hr9 := st_run (hs9.there (o := 5) (n := 7) (by decide)) hX8.cells.1 hX8.cells.2
  have hl9 := hX8.cells.1
  replace hs9 := hs9.expr hX8
  replace h9 := h9.setOs hne hA 5 cs
  replace hK9 := Kp.setCellsB cs 5 hK9
  have HE := Lib.hid (And.intro hs9 (And.intro h9 hK9))
  clear hs9 h9 hK9
  clear h7 hs7 hK7 hk8 hx8 h8 hs8 hK8
  clear hX8
  go_wp2_with fail
  clear hr9 hl9
  obtain ⟨hs9, h9, hK9⟩ := HE.out
  clear HE
  generalize (W8.setCells sb 5 cs) = W9 at *
  rcases hx10 : want S.T sSemi j8 with _ | (j10 | ⟨x10, j10⟩)
  ·rw [hx10] at hR
   cases hR
  ·rw [hx10] at hR
   cases hR
   refine (want_any h9 sSemi hx10).mono ?_
   rintro e W10 ⟨hk10, rfl⟩
   exact ⟨rfl, hK9.trans hk10.widen, rfl⟩
  rw [hx10, andT_ok] at hR
  refine (want_any h9 sSemi hx10).mono ?_
  rintro e W10 ⟨hk10, rfl, h10⟩
  have hs10 := hs9.kp hk10 hb hB
  have hK10 := hK9.trans (hk10.widen (b := sb))
  cases hR
  clear h9 hs9 hK9 hk10 hx10
  go_wp2_with fail
  go_end0
  exact ⟨hK10, rfl, hs10, h10⟩
end Go.Proofs.YtjmlmelcppbefaaGreatDoor
namespace Go.Proofs.YtjmlmelcppbefaaGreatDoor
open Go.RowKit Go.Maps
abbrev Ents := List (ByteArray × Value × Nat)
def entOf (p : ByteArray × Value × Nat) : MapEntry := ⟨.string p.1, p.2.1, p.2.2⟩
def kfind (l : Ents) (s : ByteArray) : Option (ByteArray × Value × Nat) := l.find? fun p => decide (p.1 = s)
theorem find_now (s : ByteArray) : ∀ (l : Ents) (i : Nat), ∃ j, Instr.findNow .string (.string s) (l.map entOf) i = some ((kfind l s).map fun p => (j, p.2.1))
 | [], i => ⟨0, rfl⟩
 | p :: l, i => by
  obtain ⟨j, hj⟩ := find_now s l (i + 1)
  obtain ⟨r, hr, hi⟩ := MapKept.sameNow_of_keys (d := .string) (a := .string s) (b := .string p.1) (by simp [MapKept.IsKey]) (by simp [MapKept.IsKey])
  by_cases h : p.1 = s
  ·refine ⟨i, ?_⟩
   have h2 : r = true := hi.2 (by rw [h])
   subst h2
   rw [h] at hr
   simp [kfind, Instr.findNow, hr, entOf, h]
  ·refine ⟨j, ?_⟩
   have h2 : r = false := by
    cases r
    ·rfl
    ·exact absurd (Value.string.inj (hi.1 rfl)).symm h
   subst h2
   simp only [List.map_cons, Instr.findNow, entOf, hr]
   simpa [kfind, h] using hj
theorem look_fn {w : World} {g n : Nat} {l : Ents} (h : w.heap[g]? = some (.map (l.map entOf).toArray n)) (s : ByteArray) :
  (Instr.lookup 76 (.map (some g)) (.string s) false).run Tryz.prog w = .ok (((kfind l s).map fun p => p.2.1).getD .nilFunc) w := by
 obtain ⟨j, hj⟩ := find_now s l 0
 have ht : Tryz.prog.underlying 76 = some (.map 9 130) := by kernel_rfl
 have hk : Tryz.prog.underlying 9 = some .string := by kernel_rfl
 have hz : (zeroValue 130).run Tryz.prog w = .ok .nilFunc w := by kernel_rfl
 have hi : MapKept.IsKey .string (.string s) := by simp [MapKept.IsKey]
 have hj2 : Instr.findNow .string (.string s) (l.map entOf).toArray.toList 0 = some ((kfind l s).map fun p => (j, p.2.1)) := by simpa using hj
 rcases hf : kfind l s with _ | p
 ·rw [hf] at hj2
  simp [Instr.lookup, run_underlying ht, MapKept.run_getObj_map h, MapKept.run_checkKey hk hi, MapKept.run_findKey hk hj2, hz, Result.andThen]
 ·rw [hf] at hj2
  simp [Instr.lookup, run_underlying ht, MapKept.run_getObj_map h, MapKept.run_checkKey hk hi, MapKept.run_findKey hk hj2, Result.andThen]
theorem put_fn {w : World} {g n : Nat} {l : Ents} (h : w.heap[g]? = some (.map (l.map entOf).toArray n)) (s : ByteArray) (v : Value) (hn : kfind l s = none) :
  (Instr.mapUpdate 76 (.map (some g)) (.string s) v).run Tryz.prog w = .ok () { w with heap := w.heap.setIfInBounds g (.map ((l ++ [(s, v, n)]).map entOf).toArray (n + 1)) } := by
 obtain ⟨j, hj⟩ := find_now s l 0
 have ht : Tryz.prog.underlying 76 = some (.map 9 130) := by kernel_rfl
 have hk : Tryz.prog.underlying 9 = some .string := by kernel_rfl
 have hi : MapKept.IsKey .string (.string s) := by simp [MapKept.IsKey]
 have hj2 : Instr.findNow .string (.string s) (l.map entOf).toArray.toList 0 = some none := by simpa [hn] using hj
 simp [Instr.mapUpdate, run_underlying ht, MapKept.run_getObj_map h, MapKept.run_checkKey hk hi, MapKept.run_findKey hk hj2, MapKept.run_setObj_map _ h, Result.andThen, entOf]
def Plain (w : World) (b : Nat) (fv : Value) (kind : Nat) (Ps : List FuncId) : Prop := ∃ (g1 g2 : Nat) (a : Option Addr) (cap : Nat),
 fv = .func (.func 117) #[] #[.pointer (some ⟨g1, 0, none⟩), .pointer (some ⟨g2, 0, none⟩)] ∧ g1 < b ∧ w.cell? ⟨g1, 0, none⟩ = some (.int .i64 (kind : Int)) ∧ g2 < b ∧ w.cell? ⟨g2, 0, none⟩ = some (.slice a Ps.length cap) ∧
 ∀ i, i < Ps.length → ∃ g3 off, a = some ⟨g3, off, none⟩ ∧ g3 < b ∧ w.cell? ⟨g3, off + i, none⟩ = some (.func (.func (Ps.getD i 0)) #[] #[])
def partsOf (k : Nat) : List FuncId := if k = 1 then [66, 71, 69] else if k = 8 ∨ k = 12 then [66, 68] else if k = 11 then [66, 69] else if k = 14 then [] else if k = 15 then [69] else [66]
def Reads (w : World) (b : Nat) (k : Nat) (v : Option Value) : Prop :=
 if k = 0 then v = none else if k = 4 then v = some (.func (.func 74) #[] #[]) else if k = 5 then v = some (.func (.func 77) #[] #[]) else ∃ fv, v = some fv ∧ Plain w b fv k (partsOf k)
structure Kds (w : World) (b : Nat) (S : Src) : Prop where
 mp : ∃ (g : Nat) (l : Ents) (n : Nat), S.kv = .map (some g) ∧ g < b ∧ w.heap[g]? = some (.map (l.map entOf).toArray n) ∧ ∀ s, Reads w b (stOf s) ((kfind l s).map fun p => p.2.1)
theorem Plain.keep {w w' : World} {b : Nat} {fv : Value} {kind : Nat} {Ps : List FuncId} (h : Plain w b fv kind Ps) (hk : ∀ c, c < w.heap.size → c < b → w'.heap[c]? = w.heap[c]?) : Plain w' b fv kind Ps := by
 obtain ⟨g1, g2, a, cap, h1, h2, h3, h4, h5, h6⟩ := h
 have hc : ∀ c o v, c < b → w.cell? ⟨c, o, none⟩ = some v → w'.cell? ⟨c, o, none⟩ = some v := fun c o v hcb hv => by
  rw [← hv]
  simp [World.cell?, hk c (World.block_lt_of_cell? w _ hv) hcb]
 refine ⟨g1, g2, a, cap, h1, h2, hc _ _ _ h2 h3, h4, hc _ _ _ h4 h5, fun i hi => ?_⟩
 obtain ⟨g3, off, h7, h8, h9⟩ := h6 i hi
 exact ⟨g3, off, h7, h8, hc _ _ _ h8 h9⟩
theorem Kds.keep {w w' : World} {b : Nat} {S : Src} (h : Kds w b S) (hk : ∀ c, c < w.heap.size → c < b → w'.heap[c]? = w.heap[c]?) : Kds w' b S := by
 obtain ⟨g, l, n, h1, h2, h3, h4⟩ := h.mp
 refine ⟨g, l, n, h1, h2, (hk g (Array.getElem?_eq_some_iff.1 h3).1 h2).trans h3, fun s => ?_⟩
 have h5 := h4 s
 unfold Reads at h5 ⊢
 split
 ·rw [if_pos (by assumption)] at h5; exact h5
 rename_i h0
 rw [if_neg h0] at h5
 split
 ·rw [if_pos (by assumption)] at h5; exact h5
 rename_i h1
 rw [if_neg h1] at h5
 split
 ·rw [if_pos (by assumption)] at h5; exact h5
 rename_i h2
 rw [if_neg h2] at h5
 obtain ⟨fv, h6, h7⟩ := h5
 exact ⟨fv, h6, h7.keep hk⟩
theorem Kds.kp {w w' : World} {b sb : Nat} {S : Src} (h : Kds w b S) (hk : Kp w w' b sb) (hb : b ≤ sb) : Kds w' b S := h.keep fun c hc hcb => hk.block c hc (by omega) (by omega)
theorem Kds.below {w w' : World} {b : Nat} {S : Src} (h : Kds w b S) (hk : Below w.heap.size w w') : Kds w' b S := h.keep fun c hc _ => hk.block c hc
def blkOk (w : World) (l : List St) (e : Ending) (w' : World) : Prop := ∃ (a : Option Addr) (cap : Nat), e = .returned (.slice a l.length cap) ∧ Roomy l.length cap ∧ StsL (w.heap.size ≤ ·) w' a 0 l
def stOk (w : World) (s : St) (e : Ending) (w' : World) : Prop := ∃ cs : List Value, e = .returned (.agg cs.toArray) ∧ StL (w.heap.size ≤ ·) w' cs s
def CB (b : Nat) (S : Src) (f : Nat) : Prop := ∀ (w : World) (k : Nat) (R : Except Nat (List St × Nat)), Rw w b S k → Ops w → Kds w b S → pB S.T f k = some R → Calls Tryz.prog 75 #[.pointer (some ⟨b, 0, none⟩)] w (WP w b S R (blkOk w))
def CS (b : Nat) (S : Src) (f : Nat) : Prop := ∀ (w : World) (k : Nat) (R : Except Nat (St × Nat)), Rw w b S k → Ops w → Kds w b S → pS S.T f k = some R → Calls Tryz.prog 118 #[.pointer (some ⟨b, 0, none⟩)] w (WP w b S R (stOk w))
def PartKs (b : Nat) (S : Src) (f : FuncId) (caps : Array Value) (g : St → Nat → PR St) : Prop := ∀ (w : World) (B sb k : Nat) (st : St) (R : Except Nat (St × Nat)), Rw w b S k → Ops w → Kds w b S → Away S sb → b < B → B ≤ sb → Sb B w sb st → g st k = some R →
 Calls Tryz.prog f (#[.pointer (some ⟨b, 0, none⟩), .pointer (some ⟨sb, 0, none⟩)] ++ caps) w (SP w b sb B S R)
theorem StsL.part {W w : World} {B sb : Nat} {a : Option Addr} {l : List St} (h : StsL (W.heap.size ≤ ·) w a 0 l) (hB : B ≤ sb) (hl : sb < W.heap.size) : StsL (fun c => B ≤ c ∧ c ≠ sb) w a 0 l :=
 StsL.weak (fun c hc => by
  have : W.heap.size ≤ c := hc
  exact ⟨by omega, by omega⟩) h
def gWhile (T : List Wd) (f : Nat) (st : St) (k : Nat) : PR St := andT (pX T k) fun x j => andT (pB T f j) fun c m => some (.ok (((st.setKind 5).setExpr x).setBody c, m))
def gIf (T : List Wd) (f : Nat) (st : St) (k : Nat) : PR St := andT (pX T k) fun x j => andT (pB T f j) fun c m =>
 if isT T m wElse = true then andT (pB T f (m + 1)) fun d n => some (.ok ((((st.setKind 4).setExpr x).setBody c).setEls d, n)) else some (.ok (((st.setKind 4).setExpr x).setBody c, m))
end Go.Proofs.YtjmlmelcppbefaaGreatDoor
namespace Go.Proofs.YtjmlmelcppbefaaGreatDoor
open Go.RowKit Go.Maps
set_option maxRecDepth 100000 in
set_option maxHeartbeats 4000000 in
theorem while_part {b : Nat} {S : Src} {f : Nat} (hb0 : b ≠ 0) (hBl : CB b S f) : PartKs b S 77 #[] (gWhile S.T f) := by
 intro w B sb k st R h hO hkd hA hb hB hs hR
 unfold gWhile at hR
 have hne : b ≠ sb := by omega
 have hs0 : sb ≠ 0 := by omega
 have hbs : b ≤ sb := by omega
 go_enter Tryz.func77, Tryz.ntmps77
 go_wp2_with fail
 rcases hx1 : pX S.T k with _ | (j1 | ⟨x1, j1⟩)
 ·rw [hx1] at hR
  cases hR
 ·rw [hx1] at hR
  cases hR
  refine (expr_any hb0 h hO hx1).mono ?_
  rintro e W1 ⟨hk1, rfl⟩
  exact ⟨rfl, (Kp.refl w b sb).trans hk1.widen, rfl⟩
 rw [hx1, andT_ok] at hR
 refine (expr_any hb0 h hO hx1).mono ?_
 rintro e W1 ⟨hk1, ⟨cs, rfl, hX⟩, h1⟩
 have hs1 := hs.kp hk1 hb hB
 have hK1 := (Kp.refl w b sb).trans (hk1.widen (b := sb))
 have hX1 := hX.part hB hs.lt
 clear hX
 obtain ⟨v0, c0⟩ := hs1.cell (j := 0) (by decide)
 have f0 := hs1.frozen 0
 have hs2 := hs1
 have h2 := h1
 have hK2 := hK1
 replace hs2 := hs2.kind 5
 replace h2 := h2.setO hne hA 0 (.int .i64 5)
 replace hK2 := hK2.setB 0 (.int .i64 5)
 have hr2 := st_run (hs2.there (o := 5) (n := 7) (by decide)) hX1.cells.1 hX1.cells.2
 have hl2 := hX1.cells.1
 have hX2 := ex_keep hX1 0 (.int .i64 5)
 replace hs2 := hs2.expr hX2
 replace h2 := h2.setOs hne hA 5 cs
 replace hK2 := Kp.setCellsB cs 5 hK2
 have HE := Lib.hid (And.intro hs2 (And.intro h2 hK2))
 clear hs2 h2 hK2
 clear hs hk1 hx1 h1 hs1 hK1
 clear hX1
 go_wp2_with fail
 clear c0 f0 hr2 hl2 hX2
 obtain ⟨hs2, h2, hK2⟩ := HE.out
 clear HE
 generalize ((W1.setCell ⟨sb, 0, none⟩ (.int .i64 5)).setCells sb 5 cs) = W2 at *
 rcases hx3 : pB S.T f j1 with _ | (j3 | ⟨x3, j3⟩)
 ·rw [hx3] at hR
  cases hR
 ·rw [hx3] at hR
  cases hR
  refine (hBl _ j1 _ h2 (hO.kp2 hK2 hb0 hs0) (hkd.kp hK2 hbs) hx3).mono ?_
  rintro e W3 ⟨hk3, rfl⟩
  exact ⟨rfl, hK2.trans hk3.widen, rfl⟩
 rw [hx3, andT_ok] at hR
 refine (hBl _ j1 _ h2 (hO.kp2 hK2 hb0 hs0) (hkd.kp hK2 hbs) hx3).mono ?_
 rintro e W3 ⟨hk3, ⟨a3, cap3, rfl, hc3, hZ3⟩, h3⟩
 have hs3 := hs2.kp hk3 hb hB
 have hK3 := hK2.trans (hk3.widen (b := sb))
 have hY3 := hZ3.part hB hs2.lt
 clear hZ3
 obtain ⟨v19, c19⟩ := hs3.cell (j := 19) (by decide)
 have f19 := hs3.frozen 19
 have hs4 := hs3
 have h4 := h3
 have hK4 := hK3
 have hz4 : StsL (fun c => B ≤ c ∧ c ≠ sb) W3 a3 0 x3 := hY3
 replace hs4 := hs4.body hc3 hz4
 clear hz4
 replace h4 := h4.setO hne hA 19 (.slice a3 x3.length cap3)
 replace hK4 := hK4.setB 19 (.slice a3 x3.length cap3)
 have HE := Lib.hid (And.intro hs4 (And.intro h4 hK4))
 clear hs4 h4 hK4
 clear h2 hs2 hK2 hk3 hx3 h3 hs3 hK3
 clear hY3
 go_wp2_with fail
 clear c19 f19
 obtain ⟨hs4, h4, hK4⟩ := HE.out
 clear HE
 generalize (W3.setCell ⟨sb, 19, none⟩ (.slice a3 x3.length cap3)) = W4 at *
 cases hR
 go_end0
 exact ⟨hK4, rfl, hs4, h4⟩
set_option maxRecDepth 100000 in
set_option maxHeartbeats 4000000 in
theorem if_part {b : Nat} {S : Src} {f : Nat} (hb0 : b ≠ 0) (hBl : CB b S f) : PartKs b S 74 #[] (gIf S.T f) := by
 intro w B sb k st R h hO hkd hA hb hB hs hR
 unfold gIf at hR
 have hne : b ≠ sb := by omega
 have hs0 : sb ≠ 0 := by omega
 have hbs : b ≤ sb := by omega
 go_enter Tryz.func74, Tryz.ntmps74
 go_wp2_with fail
 rcases hx1 : pX S.T k with _ | (j1 | ⟨x1, j1⟩)
 ·rw [hx1] at hR
  cases hR
 ·rw [hx1] at hR
  cases hR
  refine (expr_any hb0 h hO hx1).mono ?_
  rintro e W1 ⟨hk1, rfl⟩
  exact ⟨rfl, (Kp.refl w b sb).trans hk1.widen, rfl⟩
 rw [hx1, andT_ok] at hR
 refine (expr_any hb0 h hO hx1).mono ?_
 rintro e W1 ⟨hk1, ⟨cs, rfl, hX⟩, h1⟩
 have hs1 := hs.kp hk1 hb hB
 have hK1 := (Kp.refl w b sb).trans (hk1.widen (b := sb))
 have hX1 := hX.part hB hs.lt
 clear hX
 obtain ⟨v0, c0⟩ := hs1.cell (j := 0) (by decide)
 have f0 := hs1.frozen 0
 have hs2 := hs1
 have h2 := h1
 have hK2 := hK1
 replace hs2 := hs2.kind 4
 replace h2 := h2.setO hne hA 0 (.int .i64 4)
 replace hK2 := hK2.setB 0 (.int .i64 4)
 have hr2 := st_run (hs2.there (o := 5) (n := 7) (by decide)) hX1.cells.1 hX1.cells.2
 have hl2 := hX1.cells.1
 have hX2 := ex_keep hX1 0 (.int .i64 4)
 replace hs2 := hs2.expr hX2
 replace h2 := h2.setOs hne hA 5 cs
 replace hK2 := Kp.setCellsB cs 5 hK2
 have HE := Lib.hid (And.intro hs2 (And.intro h2 hK2))
 clear hs2 h2 hK2
 clear hs hk1 hx1 h1 hs1 hK1
 clear hX1
 go_wp2_with fail
 clear c0 f0 hr2 hl2 hX2
 obtain ⟨hs2, h2, hK2⟩ := HE.out
 clear HE
 generalize ((W1.setCell ⟨sb, 0, none⟩ (.int .i64 4)).setCells sb 5 cs) = W2 at *
 rcases hx3 : pB S.T f j1 with _ | (j3 | ⟨x3, j3⟩)
 ·rw [hx3] at hR
  cases hR
 ·rw [hx3] at hR
  cases hR
  refine (hBl _ j1 _ h2 (hO.kp2 hK2 hb0 hs0) (hkd.kp hK2 hbs) hx3).mono ?_
  rintro e W3 ⟨hk3, rfl⟩
  exact ⟨rfl, hK2.trans hk3.widen, rfl⟩
 rw [hx3, andT_ok] at hR
 refine (hBl _ j1 _ h2 (hO.kp2 hK2 hb0 hs0) (hkd.kp hK2 hbs) hx3).mono ?_
 rintro e W3 ⟨hk3, ⟨a3, cap3, rfl, hc3, hZ3⟩, h3⟩
 have hs3 := hs2.kp hk3 hb hB
 have hK3 := hK2.trans (hk3.widen (b := sb))
 have hY3 := hZ3.part hB hs2.lt
 clear hZ3
 obtain ⟨v19, c19⟩ := hs3.cell (j := 19) (by decide)
 have f19 := hs3.frozen 19
 have hs4 := hs3
 have h4 := h3
 have hK4 := hK3
 have hz4 : StsL (fun c => B ≤ c ∧ c ≠ sb) W3 a3 0 x3 := hY3
 replace hs4 := hs4.body hc3 hz4
 clear hz4
 replace h4 := h4.setO hne hA 19 (.slice a3 x3.length cap3)
 replace hK4 := hK4.setB 19 (.slice a3 x3.length cap3)
 have HE := Lib.hid (And.intro hs4 (And.intro h4 hK4))
 clear hs4 h4 hK4
 clear h2 hs2 hK2 hk3 hx3 h3 hs3 hK3
 clear hY3
 go_wp2_with fail
 clear c19 f19
 obtain ⟨hs4, h4, hK4⟩ := HE.out
 clear HE
 generalize (W3.setCell ⟨sb, 19, none⟩ (.slice a3 x3.length cap3)) = W4 at *
 refine (accept_any h4 wElse).mono ?_
 rintro e W5 ⟨hk5, rfl, h5⟩
 have hs5 := hs4.kp hk5 hb hB
 have hK5 := hK4.trans (hk5.widen (b := sb))
 obtain ⟨m, hm⟩ : ∃ m, isT S.T j3 wElse = m := ⟨_, rfl⟩
 rw [hm] at hR h5
 rw [hm]
 clear hm hk5 h4 hs4 hK4
 cases m
 ·rw [if_neg Bool.false_ne_true] at hR h5
  go_wp2_with fail
  cases hR
  go_end0
  exact ⟨hK5, rfl, hs5, h5⟩
 ·rw [if_pos rfl] at hR h5
  go_wp2_with fail
  rcases hx6 : pB S.T f (j3 + 1) with _ | (j6 | ⟨x6, j6⟩)
  ·rw [hx6] at hR
   cases hR
  ·rw [hx6] at hR
   cases hR
   refine (hBl _ (j3 + 1) _ h5 (hO.kp2 hK5 hb0 hs0) (hkd.kp hK5 hbs) hx6).mono ?_
   rintro e W6 ⟨hk6, rfl⟩
   exact ⟨rfl, hK5.trans hk6.widen, rfl⟩
  rw [hx6, andT_ok] at hR
  refine (hBl _ (j3 + 1) _ h5 (hO.kp2 hK5 hb0 hs0) (hkd.kp hK5 hbs) hx6).mono ?_
  rintro e W6 ⟨hk6, ⟨a6, cap6, rfl, hc6, hZ6⟩, h6⟩
  have hs6 := hs5.kp hk6 hb hB
  have hK6 := hK5.trans (hk6.widen (b := sb))
  have hY6 := hZ6.part hB hs5.lt
  clear hZ6
  obtain ⟨v20, c20⟩ := hs6.cell (j := 20) (by decide)
  have f20 := hs6.frozen 20
  have hs7 := hs6
  have h7 := h6
  have hK7 := hK6
  have hz7 : StsL (fun c => B ≤ c ∧ c ≠ sb) W6 a6 0 x6 := hY6
  replace hs7 := hs7.els hc6 hz7
  clear hz7
  replace h7 := h7.setO hne hA 20 (.slice a6 x6.length cap6)
  replace hK7 := hK7.setB 20 (.slice a6 x6.length cap6)
  have HE := Lib.hid (And.intro hs7 (And.intro h7 hK7))
  clear hs7 h7 hK7
  clear h5 hs5 hK5 hk6 hx6 h6 hs6 hK6
  clear hY6
  go_wp2_with fail
  clear c20 f20
  obtain ⟨hs7, h7, hK7⟩ := HE.out
  clear HE
  generalize (W6.setCell ⟨sb, 20, none⟩ (.slice a6 x6.length cap6)) = W7 at *
  cases hR
  go_end0
  exact ⟨hK7, rfl, hs7, h7⟩
end Go.Proofs.YtjmlmelcppbefaaGreatDoor
namespace Go.Proofs.YtjmlmelcppbefaaGreatDoor
open Go.RowKit Go.Maps
def gFold : List (St → Nat → PR St) → St → Nat → PR St
 | [], st, k => some (.ok (st, k))
 | g :: r, st, k => andT (g st k) fun st' j => gFold r st' j
theorem gFold_at {G : List (St → Nat → PR St)} {g : St → Nat → PR St} {i : Nat} (h : G[i]? = some g) (st : St) (k : Nat) : gFold (G.drop i) st k = andT (g st k) fun st' j => gFold (G.drop (i + 1)) st' j := by
 obtain ⟨hi, rfl⟩ := List.getElem?_eq_some_iff.1 h
 rw [List.drop_eq_getElem_cons hi, gFold]
set_option maxRecDepth 100000 in
set_option maxHeartbeats 4000000 in
theorem plain_part {b : Nat} {S : Src} (hb0 : b ≠ 0) {w : World} {B sb k kind : Nat} {st : St} {R : Except Nat (St × Nat)} {fv : Value} {Fs : List FuncId} {G : List (St → Nat → PR St)} (hG : ∀ i, i < Fs.length → ∃ g, G[i]? = some g ∧ (Fs.getD i 0 = 66 ∨ Fs.getD i 0 = 68 ∨ Fs.getD i 0 = 69 ∨ Fs.getD i 0 = 71) ∧ PartOk b S (Fs.getD i 0) g) (hGl : G.length = Fs.length)
  (h : Rw w b S k) (hO : Ops w) (hP : Plain w b fv kind Fs) (hA : Away S sb) (hb : b < B) (hB : B ≤ sb) (hs : Sb B w sb st) (hR : (andT (gFold G (st.setKind kind) k) fun st' j => gEnd S.T st' j) = some R) (hn : Fs.length < 10) :
  ∃ g1 g2 : Nat, fv = .func (.func 117) #[] #[.pointer (some ⟨g1, 0, none⟩), .pointer (some ⟨g2, 0, none⟩)] ∧ Calls Tryz.prog 117 #[.pointer (some ⟨b, 0, none⟩), .pointer (some ⟨sb, 0, none⟩), .pointer (some ⟨g1, 0, none⟩), .pointer (some ⟨g2, 0, none⟩)] w (SP w b sb B S R) := by
 obtain ⟨g1, g2, a, cap, hfv, hg1, c1, hg2, c2, hps⟩ := hP
 refine ⟨g1, g2, hfv, ?_⟩
 have hne : b ≠ sb := by omega
 have hs0 : sb ≠ 0 := by omega
 have hg1s : g1 ≠ sb := by omega
 have hg2s : g2 ≠ sb := by omega
 obtain ⟨v0, c0⟩ := hs.cell (j := 0) (by decide)
 have f0 := hs.frozen 0
 have hs1 := hs.kind (kind : Int)
 have h1 := h.setO hne hA 0 (.int .i64 (kind : Int))
 have hK1 := (Kp.refl w b sb).setB 0 (.int .i64 (kind : Int))
 have hP2 : ∀ i, i < Fs.length → ∃ g3 off, a = some ⟨g3, off, none⟩ ∧ g3 < b ∧ w.cell? ⟨g3, off + i, none⟩ = some (.func (.func (Fs.getD i 0)) #[] #[]) := hps
 have d2 : (w.setCell ⟨sb, 0, none⟩ (.int .i64 (kind : Int))).cell? ⟨g2, 0, none⟩ = some (.slice a Fs.length cap) := (World.cell?_setCell_far w ⟨sb, 0, none⟩ ⟨g2, 0, none⟩ _ (Ne.symm hg2s)).trans c2
 have HE := Lib.hid (And.intro hs1 (And.intro h1 hK1))
 have HP := Lib.hid hP2
 clear hs1 h1 hK1 hps hP2 h hs
 go_enter Tryz.func117, Tryz.ntmps117
 go_wp2_with fail
 clear c0 c1 c2 d2
 generalize w.setCell ⟨sb, 0, none⟩ (.int .i64 (kind : Int)) = W1 at *
 have HR := Lib.hid hR
 clear hR
 obtain ⟨N, hN⟩ : ∃ N, Fs.length = N := ⟨_, rfl⟩
 rw [hN] at hn ⊢
 have HN := Lib.hid hN
 clear hN
 go_loopg [14] N (fun x iv wr => ∃ (i : Nat) (st' : St) (j : Nat), i ≤ N ∧ x = N - i ∧ iv = .int .i64 (i : Int) ∧ Hid ((andT (gFold (G.drop i) st' j) fun st' j => gEnd S.T st' j) = some R) ∧ Hid (Sb B wr sb st' ∧ Rw wr b S j ∧ Kp w wr b sb))
 case atStart => exact ⟨0, _, k, Nat.zero_le _, rfl, rfl, HR, HE⟩
 case round =>
  obtain ⟨i, st', j, hi, rfl, rfl, HR, HE⟩ := hrel
  by_cases hiN : i < N
  ·obtain ⟨g, hg, h4, hgp⟩ := hG i (by rw [HN.out]; exact hiN)
   obtain ⟨g3, off, rfl, hg3, c3⟩ := HP.out i (by rw [HN.out]; exact hiN)
   obtain ⟨hs1, h1, hK1⟩ := HE.out
   have d3 : wr.cell? ⟨g3, off + i, none⟩ = some (.func (.func (Fs.getD i 0)) #[] #[]) := by
    rw [← c3]
    have := hK1.block g3 (World.block_lt_of_cell? w _ c3) (by omega) (by omega)
    simp [World.cell?, this]
   clear c3
   have hlt : (i : Int) < (N : Int) := by omega
   obtain ⟨F, hF⟩ : ∃ F, Fs.getD i 0 = F := ⟨_, rfl⟩
   rw [hF] at d3 hgp h4
   clear hF
   have hR := HR.out
   rw [gFold_at hg] at hR
   rw [andT_assoc] at hR
   rcases h4 with rfl | rfl | rfl | rfl
   all_goals
    go_wp2_with fail
    rcases hx : g st' j with _ | (j2 | ⟨x, j2⟩)
    ·rw [hx] at hR
     cases hR
    ·rw [hx] at hR
     cases hR
     refine (hgp wr B sb j st' _ h1 (hO.kp2 hK1 hb0 hs0) hA hb hB hs1 hx).mono ?_
     rintro e W2 ⟨hk2, rfl⟩
     exact ⟨rfl, hK1.trans hk2, rfl⟩
    ·rw [hx, andT_ok] at hR
     refine (hgp wr B sb j st' _ h1 (hO.kp2 hK1 hb0 hs0) hA hb hB hs1 hx).mono ?_
     rintro e W2 ⟨hk2, rfl, hs2, h2⟩
     have HE2 := Lib.hid (And.intro hs2 (And.intro h2 (hK1.trans hk2)))
     have HR2 := Lib.hid hR
     clear hs2 h2 hk2 hs1 h1 hK1 hR hgp d3
     go_wp2_with fail
     go_roundg (N - (i + 1))
     case rel => exact ⟨i + 1, x, j2, by omega, rfl, by simp, HR2, HE2⟩
     case measure => omega
  ·obtain rfl : i = N := by omega
   have hlt : ¬ ((i : Int) < (i : Int)) := by omega
   have hR := HR.out
   obtain ⟨hs1, h1, hK1⟩ := HE.out
   rw [List.drop_eq_nil_of_le (by rw [hGl, HN.out]; exact Nat.le_refl _), gFold, andT_ok, gEnd] at hR
   go_wp2_with fail
   rcases hx : want S.T sSemi j with _ | (j2 | ⟨x, j2⟩)
   ·rw [hx] at hR
    cases hR
   ·rw [hx] at hR
    cases hR
    refine (want_any h1 sSemi hx).mono ?_
    rintro e W2 ⟨hk2, rfl⟩
    exact ⟨rfl, hK1.trans hk2.widen, rfl⟩
   ·rw [hx, andT_ok] at hR
    cases hR
    refine (want_any h1 sSemi hx).mono ?_
    rintro e W2 ⟨hk2, rfl, h2⟩
    have hs2 := hs1.kp hk2 hb hB
    go_wp2_with fail
    go_end0
    exact ⟨hK1.trans hk2.widen, rfl, hs2, h2⟩
end Go.Proofs.YtjmlmelcppbefaaGreatDoor
