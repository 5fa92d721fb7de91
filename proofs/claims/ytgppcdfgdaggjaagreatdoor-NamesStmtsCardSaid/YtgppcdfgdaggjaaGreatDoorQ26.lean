/- Texts laid together. No condition but what each law says. -/
import Derived.Test.YtgppcdfgdaggjaaGreatDoorQ01
import Derived.Test.YtgppcdfgdaggjaaGreatDoorQ25
import Derived.Test.YtgppcdfgdaggjaaGreatDoorQ21
set_option maxRecDepth 100000
set_option maxHeartbeats 8000000
namespace Go.Proofs.YtgppcdfgdaggjaaGreatDoor
open Go.RowKit Go.Maps
theorem wpList_store_part {E : Array Oper} {D : List Oper} {o : Oper} {a : Act} {w : World} {C : Exit → Act → World → Prop} {T F : TypeId} {n : Nat} (M : (Tryz.prog.info? T).map (·.size) = some n) (G : o.guard = none) (x y : Operand) (J : o.op = .store T x y)
  (b k : Nat) (vs : List Value) {pre mid post : List Value} (N : a.eval x = .pointer (some ⟨b, k, none⟩)) (K : a.eval y = .agg vs.toArray) (A : Blk w b F (pre ++ (mid ++ post))) (H : pre.length = k) (j : mid.length = n) (g : vs.length = n ∧ ∀ v ∈ vs, v.oneCell' = true) (h : ∀ W, Blk W b F (pre ++ (vs ++ post)) → Ch b w W → wpList Tryz.prog E C D (a.put o.dst undef) W) : wpList Tryz.prog E C (o :: D) a w := by
 subst H
 exact wpList_store_mid G T x y J b pre.length vs.toArray N K (A.there (by simp [j, g.1])) (by rw [M]; simp [g.1]) (all_oneCell_toArray g.2) (by simpa using h _ (A.put (by rw [g.1, j])) ⟨pre.length, vs, rfl⟩)
section
variable {k l c : Int} {s t : ByteArray} {xc yc : List Value} {bv ev : Value} {id sl ot : Int} {lo : Bool}
theorem stC_x : stC k l c s t xc yc bv ev id sl ot lo = [I k, I l, I c, .string s, .string t] ++ (xc ++ (yc ++ [bv, ev, I id, I sl, I ot, .bool lo])) := rfl
theorem stC_y : stC k l c s t xc yc bv ev id sl ot lo = (I k :: I l :: I c :: .string s :: .string t :: xc) ++ (yc ++ [bv, ev, I id, I sl, I ot, .bool lo]) := by simp [stC]
end
end Go.Proofs.YtgppcdfgdaggjaaGreatDoor
set_option maxRecDepth 100000
set_option maxHeartbeats 8000000
namespace Go.Proofs.YtgppcdfgdaggjaaGreatDoor
open Go.RowKit Go.Maps
section
variable {w W W' : World} {cs cs' : List Value} {ok : Nat → Prop} {D : DF}
end
mutual
def St.sm : St → Prop
 | .mk _ _ _ _ _ x y body els _ _ _ _ => x.sm ∧ y.sm ∧ St.sms body ∧ St.sms els
def St.sms : List St → Prop
 | [] => True
 | s :: r => s.sm ∧ St.sms r
end
mutual
theorem stR_sm2 {nm : ByteArray → Bool} : ∀ (s : St) {d : Nat}, stR nm s d = true → s.sm
 | .mk k l c s t x y body els id sl ot lo, d, h => by
  unfold stR at h
  simp only [Bool.and_eq_true] at h
  obtain ⟨-, -, -, -, h1, h2, -, -, h3, h4⟩ := h
  unfold St.sm
  refine ⟨?_, ?_, stsR_sm2 body h3, stsR_sm2 els h4⟩
  ·split at h2
   ·exact exR_sm2 x h2
   ·exact exZ_sm h2
  ·split at h1
   ·exact exR_sm2 y h1
   ·exact exZ_sm h1
theorem stsR_sm2 {nm : ByteArray → Bool} : ∀ (r : List St) {d : Nat}, stsR nm r d = true → St.sms r
 | [], _, _ => by unfold St.sms; trivial
 | s :: r, d, h => by
  unfold stsR at h
  rw [Bool.and_eq_true] at h
  unfold St.sms
  exact ⟨stR_sm2 s h.1, stsR_sm2 r h.2⟩
end
end Go.Proofs.YtgppcdfgdaggjaaGreatDoor
set_option maxRecDepth 100000
set_option maxHeartbeats 8000000
namespace Go.Proofs.YtgppcdfgdaggjaaGreatDoor
open Go.RowKit Go.Maps
def PgRL (ok : Nat → Prop) (w : World) (P : Pg) (ps : List Value) : Prop := ∃ v0 v1 v4 v5 n0 n1 n2 n3 n4, ps = pgC P v0 v1 v4 v5 n0 n1 n2 n3 n4 [] ∧ PgL ok w P v0 v1 v4 v5 n0 n1 n2 n3 n4
def FOk (w : World) (R : Pg × (Int × Int) × Int) (e : Ending) (w' : World) : Prop := (∃ ps, e = .returned (.tuple #[.agg ps.toArray, .agg #[.int .i64 R.2.1.1, .int .i64 R.2.1.2], .int .i64 R.2.2]) ∧ PgRL (w.heap.size ≤ ·) w' R.1 ps) ∧ Below w.heap.size w w'
def zPgC : List Value := [.slice none 0 0, .slice none 0 0, .int .i64 0, .int .i64 0, .slice none 0 0, .slice none 0 0, .int .i64 0, .int .i64 0, .slice none 0 0, .slice none 0 0, .slice none 0 0, .slice none 0 0, .slice none 0 0]
theorem zero30 : ∃ i z, Tryz.prog.info? 30 = some i ∧ i.zero = some z ∧ z.cells = zPgC.toArray := infoZ (by kernel_rfl)
theorem info30 : (Tryz.prog.info? 30).map (·.size) = some 13 := by kernel_rfl
theorem under30 : ∃ d, Tryz.prog.underlying 30 = some d ∧ d.isRow = true := by
 have h : (Tryz.prog.underlying 30).map (·.isRow) = some true := by kernel_rfl
 obtain ⟨d, j, g⟩ := Option.map_eq_some_iff.1 h
 exact ⟨d, j, g⟩
theorem zero32 : ∃ i z, Tryz.prog.info? 32 = some i ∧ i.zero = some z ∧ z.cells = [Value.int .i64 0, .int .i64 0].toArray := infoZ (by kernel_rfl)
theorem info32a : (Tryz.prog.info? 32).map (·.size) = some 2 := by kernel_rfl
theorem under32a : ∃ d, Tryz.prog.underlying 32 = some d ∧ d.isRow = true := by
 have h : (Tryz.prog.underlying 32).map (·.isRow) = some true := by kernel_rfl
 obtain ⟨d, j, g⟩ := Option.map_eq_some_iff.1 h
 exact ⟨d, j, g⟩
theorem pgRL_zero (ok : Nat → Prop) (w : World) : PgRL ok w zPg zPgC := ⟨_, _, _, _, _, _, _, _, _, rfl, ⟨Ro.nil _ _ _, Ro.nil _ _ _, Ro.nil _ _ _, Ro.nil _ _ _, Ro.nil _ _ _, Ro.nil _ _ _, Ro.nil _ _ _, Ro.nil _ _ _, Ro.nil _ _ _⟩⟩
theorem PgRL.keep {ok : Nat → Prop} {w w' : World} {P : Pg} {l2 : List Value} (E : ∀ (b o : Nat) (u : Value), ok b → w.cellF ⟨b, o, none⟩ = some u → w'.cellF ⟨b, o, none⟩ = some u) (h : PgRL ok w P l2) : PgRL ok w' P l2 := by
 obtain ⟨G, C, j, g, A, n1, n2, n3, n4, F, D⟩ := h
 exact ⟨G, C, j, g, A, n1, n2, n3, n4, F, D.keep E⟩
theorem PgRL.weak {ok ok' : Nat → Prop} {w : World} {P : Pg} {l2 : List Value} (E : ∀ b, ok b → ok' b) (h : PgRL ok w P l2) : PgRL ok' w P l2 := by
 obtain ⟨G, C, j, g, A, n1, n2, n3, n4, F, D⟩ := h
 exact ⟨G, C, j, g, A, n1, n2, n3, n4, F, D.weak E⟩
theorem PgRL.cells {ok : Nat → Prop} {w : World} {P : Pg} {l2 : List Value} (h : PgRL ok w P l2) : l2.length = 13 ∧ ∀ v ∈ l2, v.oneCell' = true := by
 obtain ⟨E, D, A, j, C, n1, n2, n3, n4, rfl, h⟩ := h
 refine ⟨rfl, fun v g => ?_⟩
 simp only [pgC, List.mem_cons, List.not_mem_nil, or_false] at g
 rcases g with rfl | rfl | rfl | rfl | rfl | rfl | rfl | rfl | rfl | rfl | rfl | rfl | rfl
 all_goals first | rfl | exact h.vars.one | exact h.arrays.one | exact h.chans.one | exact h.threads.one | exact h.nv.one | exact h.na.one | exact h.nm.one | exact h.nc.one | exact h.nh.one
section
variable {w0 w W W' : World} {p0 q0 : Nat} {cs : List Value} {ok : Nat → Prop} {D : DF}
end
theorem end_cct {T g : TypeId} {d j : TypeDesc} {n n2 : Nat} (V : Tryz.prog.underlying T = some d) (E : d.isRow = true) (H : (Tryz.prog.info? T).map (·.size) = some n) (C : Tryz.prog.underlying g = some j) (U : j.isRow = true) (X : (Tryz.prog.info? g).map (·.size) = some n2) {w : Func} {R : Ending → World → Prop} {A : Act} {W : World} {b b2 : Nat} {s s2 u : Tmp} {v : Value} {cs l2 : List Value} (h : Blk W b T cs) (Y : cs.length = n) (M : Blk W b2 g l2) (D : l2.length = n2) (K : w.results = #[.cell s T, .cell s2 g, .tmp u])
  (Q : A.tmps.getD s undef = Pt b) (G : A.tmps.getD s2 undef = Pt b2) (Z : A.tmps.getD u undef = v) (hd : A.defers = []) (hR : R (.returned (.tuple #[.agg cs.toArray, .agg l2.toArray, v])) W) : bodyPost Tryz.prog w R .ret A W := by
 have J : A.tmps[s]?.getD undef = Pt b := by rw [← Q]; simp
 have S : A.tmps[s2]?.getD undef = Pt b2 := by rw [← G]; simp
 have F : A.tmps[u]?.getD undef = v := by rw [← Z]; simp
 have a0 := run_loadVar_mid (P := Tryz.prog) W b 0 T cs d h.whole V E (by rw [Y]; exact H)
 have N := run_loadVar_mid (P := Tryz.prog) W b2 0 g l2 j M.whole C U (by rw [D]; exact X)
 refine bodyPost_ret (v := .tuple #[.agg cs.toArray, .agg l2.toArray, v]) ?_ hd hR
 simp [results, K, J, S, F, asAddr, a0, N]
theorem two_one (a b : Int) : [Value.int .i64 a, .int .i64 b].length = 2 ∧ ∀ v ∈ [Value.int .i64 a, .int .i64 b], v.oneCell' = true := ⟨rfl, fun v hv => by
 simp only [List.mem_cons, List.not_mem_nil, or_false] at hv
 rcases hv with rfl | rfl <;> rfl⟩
end Go.Proofs.YtgppcdfgdaggjaaGreatDoor
set_option maxRecDepth 100000
set_option maxHeartbeats 8000000
namespace Go.Proofs.YtgppcdfgdaggjaaGreatDoor
open Go.RowKit Go.Maps
theorem grow_blk {J : Type} {E : El J} {B : Nat} {w : World} {v : Value} {l : List J} (h : Grow E B w v l) (a1 : 0 < l.length) (_a2 : 0 < E.sz) : ∃ g cap C, v = .slice (some ⟨g, 0, none⟩) l.length cap ∧ B ≤ g ∧ Blk w g E.ty C ∧ Roomy l.length cap ∧ l.length * E.sz ≤ C.length ∧ ∀ j x, l[j]? = some x → ∃ cs, E.L (fun c => (B ≤ c ∧ c ≠ g) ∧ c < w.heap.size) w cs x ∧ ∀ t, t < E.sz → C[j * E.sz + t]? = cs[t]? := by
 have M := h.form
 obtain ⟨cells, h1, V, H⟩ := h
 rcases V.2 with ⟨rfl, h4⟩ | ⟨g, cap, F, rfl, h5, h6, W, h8, X, Z⟩
 ·omega
 ·have hR : Roomy l.length cap := by
   obtain ⟨a, c, Q, K⟩ := M
   cases Q
   exact K
  have S : l.length * E.sz ≤ F.toList.length := by
   have D : F.toList.length = cap * E.sz := by simpa using X
   rw [D]
   exact Nat.mul_le_mul_right _ W
  refine ⟨g, cap, F.toList, rfl, h5, by unfold Blk; simpa using h6, hR, S, fun j x G => ?_⟩
  have hj := (List.getElem?_eq_some_iff.1 G).1
  have hL := H j cells[j] x (List.getElem?_eq_getElem (by omega)) G
  refine ⟨cells[j], E.weak (fun c A => ⟨⟨A.1.1, fun e => A.1.2 (by rw [e]; rfl)⟩, A.2⟩) hL, fun t R => ?_⟩
  have a0 : ∀ c ∈ cells, c.length = E.sz := fun c A => by
   obtain ⟨i, N, rfl⟩ := List.mem_iff_getElem.1 A
   exact (E.cells (H i _ _ (List.getElem?_eq_getElem N) (List.getElem?_eq_getElem (by omega)))).1
  have U := flatten_at cells j t cells[j] a0 (List.getElem?_eq_getElem (by omega)) R
  rw [← U, ← Z, List.getElem?_take]
  have Y : j * E.sz + t < l.length * E.sz := by
   have D : (j + 1) * E.sz ≤ l.length * E.sz := Nat.mul_le_mul_right _ hj
   rw [Nat.add_mul] at D
   omega
  rw [if_pos Y]
end Go.Proofs.YtgppcdfgdaggjaaGreatDoor
set_option maxRecDepth 100000
set_option maxHeartbeats 8000000
namespace Go.Proofs.YtgppcdfgdaggjaaGreatDoor
open Go.RowKit Go.Maps
def textR (F : List De → Pg × (Int × Int) × Int) (s : ByteArray) : Pg × (Int × Int) × Int := if (parseR s).2.2 ≠ 0 then (zPg, (parseR s).2.1, (parseR s).2.2) else F (parseR s).1
end Go.Proofs.YtgppcdfgdaggjaaGreatDoor
set_option maxRecDepth 100000
set_option maxHeartbeats 8000000
namespace Go.Proofs.YtgppcdfgdaggjaaGreatDoor
open Go.RowKit Go.Maps
def Yes (W : World) (e : Ending) (w' : World) : Prop := e = .returned (.bool true) ∧ Below W.heap.size W w'
theorem Ro.cell1 {j : Type} {E : El j} {ok : Nat → Prop} {W : World} {a : Option Addr} {n cap : Nat} {l : List j} (h : Ro E ok W (.slice a n cap) l) {i : Nat} {x : j} (K : l[i]? = some x) (M : E.sz = 1) {v : Value} (G : ∀ cs, E.L ok W cs x → cs = [v]) : ∃ b g, a = some ⟨b, g, none⟩ ∧ W.cell? ⟨b, g + i, none⟩ = some v := by
 obtain ⟨Q, N, F, -, A⟩ := h
 obtain ⟨b, g, cs, D, -, C, J⟩ := A i x K
 cases F
 refine ⟨b, g, D, ?_⟩
 have H := G cs J
 subst H
 have w := C 0 v rfl
 rw [M, Nat.mul_one, Nat.add_zero] at w
 exact World.cellF_cell w
theorem rvals_yes {Q Q0 : Nat → Prop} {W : World} {v0 v1 : Value} (l : List Int) (A : Ro (elI 2) Q W v0 l) (C : Ro (elI 2) Q0 W v1 l) : Calls Tryz.prog 26 #[v0, v1] W (Yes W) := by
 have Z : Tryz.prog.follows .mixedOrders = true := by kernel_rfl
 obtain ⟨a1, c1, rfl, K, -⟩ := id A
 obtain ⟨a2, c2, rfl, Y, -⟩ := id C
 obtain ⟨j, N⟩ := eX (l.length)
 rw [N] at A C K ⊢
 have HN := O N
 have H1 := O A
 have H2 := O C
 have U := O fun _ : True => K
 clear N A C K Y
 go_in
 go_wp2
 go_loopg [5] j (fun x iv wr => ∃ i : Nat, i ≤ j ∧ x = j - i ∧ iv = I i ∧ Hid (bL W wr))
 case atStart => exact ⟨0, Nat.zero_le _, rfl, rfl, O (Below.refl _ _)⟩
 case round =>
  obtain ⟨i, hi, rfl, rfl, G⟩ := hrel
  by_cases a4 : i < j
  ·have a7 : (i : Int) < (j : Int) := by omega
   have a8 : (0 : Int) ≤ (i : Int) := by omega
   have a0 : Hid (wrap64 ((i : Int) + 1) = ((i + 1 : Nat) : Int)) := O (by
    have A := (U trivial).1
    have C := (U trivial).2
    have := IntWalk.wrap64_in ((i : Int) + 1) (by omega)
    rw [this]
    omega)
   obtain ⟨x, J⟩ : ∃ x, l[i]? = some x := ⟨_, List.getElem?_eq_getElem (by rw [HN.out]; exact a4)⟩
   obtain ⟨b1, o1, rfl, R⟩ := H1.cell1 J rfl (v := I x) (fun cs h => h)
   obtain ⟨b2, o2, rfl, S⟩ := H2.cell1 J rfl (v := I x) (fun cs h => h)
   obtain ⟨w, M⟩ := eX (wr.drew)
   have H : Hid (bL W w) := O (by rw [← M]; exact G.trans ((Below.refl _ _).drew))
   have F := below_cl H b1 (o1 + i) _ R
   have E := below_cl H b2 (o2 + i) _ S
   have a3 := O F
   have a5 := O E
   clear R S F E J
   go_wp2
   apply wp_region_x [] (fun V => V = w) Z
   rw [M]
   clear M G
   have g : Hid (w = w) := O rfl
   refine tK3 0 ?_
   refine wpX_takeD 3 (some 20) (v := ?_) rfl rfl (by kernel_rfl) (fun _ _ _ h => h) g (Or.inl ⟨by rfl, ?_⟩) ?_
   rotate_left
   ·intro X D
    have F := a3.out
    rw [D]
    clear D
    go_simp
    first | with_reducible rfl | rw [if_neg (by omega)]
   refine nm ?_
   refine tK3 4 ?_
   refine wpX_takeD 7 (some 24) (v := ?_) rfl rfl (by kernel_rfl) (fun _ _ _ h => h) g (Or.inl ⟨by rfl, ?_⟩) ?_
   rotate_left
   ·intro X D
    have E := a5.out
    rw [D]
    clear D
    go_simp
    first | with_reducible rfl | rw [if_neg (by omega)]
   refine nm ?_
   refine tK1 8 ?_
   refine nm ?_
   refine dn ?_
   clear g
   go_wp2
   go_roundg (j - (i + 1))
   case measure => omega
   case rel => exact ⟨i + 1, by omega, rfl, congrArg (Value.int .i64) a0, H⟩
  ·obtain rfl : i = j := by omega
   have a6 : ¬ (i : Int) < (i : Int) := by omega
   go_wp2
   go_ret
   exact ⟨rfl, G⟩
theorem rints_yes {Q Q0 : Nat → Prop} {W : World} {v0 v1 : Value} (l : List Int) (A : Ro (elI 3) Q W v0 l) (C : Ro (elI 3) Q0 W v1 l) : Calls Tryz.prog 27 #[v0, v1] W (Yes W) := by
 have Z : Tryz.prog.follows .mixedOrders = true := by kernel_rfl
 obtain ⟨a1, c1, rfl, K, -⟩ := id A
 obtain ⟨a2, c2, rfl, Y, -⟩ := id C
 obtain ⟨j, N⟩ := eX (l.length)
 rw [N] at A C K ⊢
 have HN := O N
 have H1 := O A
 have H2 := O C
 have U := O fun _ : True => K
 clear N A C K Y
 go_in
 go_wp2
 go_loopg [5] j (fun x iv wr => ∃ i : Nat, i ≤ j ∧ x = j - i ∧ iv = I i ∧ Hid (bL W wr))
 case atStart => exact ⟨0, Nat.zero_le _, rfl, rfl, O (Below.refl _ _)⟩
 case round =>
  obtain ⟨i, hi, rfl, rfl, G⟩ := hrel
  by_cases a4 : i < j
  ·have a7 : (i : Int) < (j : Int) := by omega
   have a8 : (0 : Int) ≤ (i : Int) := by omega
   have a0 : Hid (wrap64 ((i : Int) + 1) = ((i + 1 : Nat) : Int)) := O (by
    have A := (U trivial).1
    have C := (U trivial).2
    have := IntWalk.wrap64_in ((i : Int) + 1) (by omega)
    rw [this]
    omega)
   obtain ⟨x, J⟩ : ∃ x, l[i]? = some x := ⟨_, List.getElem?_eq_getElem (by rw [HN.out]; exact a4)⟩
   obtain ⟨b1, o1, rfl, R⟩ := H1.cell1 J rfl (v := I x) (fun cs h => h)
   obtain ⟨b2, o2, rfl, S⟩ := H2.cell1 J rfl (v := I x) (fun cs h => h)
   obtain ⟨w, M⟩ := eX (wr.drew)
   have H : Hid (bL W w) := O (by rw [← M]; exact G.trans ((Below.refl _ _).drew))
   have F := below_cl H b1 (o1 + i) _ R
   have E := below_cl H b2 (o2 + i) _ S
   have a3 := O F
   have a5 := O E
   clear R S F E J
   go_wp2
   apply wp_region_x [] (fun V => V = w) Z
   rw [M]
   clear M G
   have g : Hid (w = w) := O rfl
   refine tK3 0 ?_
   refine wpX_takeD 3 (some 20) (v := ?_) rfl rfl (by kernel_rfl) (fun _ _ _ h => h) g (Or.inl ⟨by rfl, ?_⟩) ?_
   rotate_left
   ·intro X D
    have F := a3.out
    rw [D]
    clear D
    go_simp
    first | with_reducible rfl | rw [if_neg (by omega)]
   refine nm ?_
   refine tK3 4 ?_
   refine wpX_takeD 7 (some 24) (v := ?_) rfl rfl (by kernel_rfl) (fun _ _ _ h => h) g (Or.inl ⟨by rfl, ?_⟩) ?_
   rotate_left
   ·intro X D
    have E := a5.out
    rw [D]
    clear D
    go_simp
    first | with_reducible rfl | rw [if_neg (by omega)]
   refine nm ?_
   refine tK1 8 ?_
   refine nm ?_
   refine dn ?_
   clear g
   go_wp2
   go_roundg (j - (i + 1))
   case measure => omega
   case rel => exact ⟨i + 1, by omega, rfl, congrArg (Value.int .i64) a0, H⟩
  ·obtain rfl : i = j := by omega
   have a6 : ¬ (i : Int) < (i : Int) := by omega
   go_wp2
   go_ret
   exact ⟨rfl, G⟩
theorem rstrs_yes {Q Q0 : Nat → Prop} {W : World} {v0 v1 : Value} (l : List ByteArray) (A : Ro elS Q W v0 l) (C : Ro elS Q0 W v1 l) : Calls Tryz.prog 28 #[v0, v1] W (Yes W) := by
 have Z : Tryz.prog.follows .mixedOrders = true := by kernel_rfl
 obtain ⟨a1, c1, rfl, K, -⟩ := id A
 obtain ⟨a2, c2, rfl, Y, -⟩ := id C
 obtain ⟨j, N⟩ := eX (l.length)
 rw [N] at A C K ⊢
 have HN := O N
 have H1 := O A
 have H2 := O C
 have U := O fun _ : True => K
 clear N A C K Y
 go_in
 go_wp2
 go_loopg [5] j (fun x iv wr => ∃ i : Nat, i ≤ j ∧ x = j - i ∧ iv = I i ∧ Hid (bL W wr))
 case atStart => exact ⟨0, Nat.zero_le _, rfl, rfl, O (Below.refl _ _)⟩
 case round =>
  obtain ⟨i, hi, rfl, rfl, G⟩ := hrel
  by_cases a4 : i < j
  ·have a7 : (i : Int) < (j : Int) := by omega
   have a8 : (0 : Int) ≤ (i : Int) := by omega
   have a0 : Hid (wrap64 ((i : Int) + 1) = ((i + 1 : Nat) : Int)) := O (by
    have A := (U trivial).1
    have C := (U trivial).2
    have := IntWalk.wrap64_in ((i : Int) + 1) (by omega)
    rw [this]
    omega)
   obtain ⟨x, J⟩ : ∃ x, l[i]? = some x := ⟨_, List.getElem?_eq_getElem (by rw [HN.out]; exact a4)⟩
   obtain ⟨b1, o1, rfl, R⟩ := H1.cell1 J rfl (v := .string x) (fun cs h => h)
   obtain ⟨b2, o2, rfl, S⟩ := H2.cell1 J rfl (v := .string x) (fun cs h => h)
   obtain ⟨w, M⟩ := eX (wr.drew)
   have H : Hid (bL W w) := O (by rw [← M]; exact G.trans ((Below.refl _ _).drew))
   have F := below_cl H b1 (o1 + i) _ R
   have E := below_cl H b2 (o2 + i) _ S
   have a3 := O F
   have a5 := O E
   clear R S F E J
   go_wp2
   apply wp_region_x [] (fun V => V = w) Z
   rw [M]
   clear M G
   have g : Hid (w = w) := O rfl
   refine tK3 0 ?_
   refine wpX_takeD 3 (some 20) (v := ?_) rfl rfl (by kernel_rfl) (fun _ _ _ h => h) g (Or.inl ⟨by rfl, ?_⟩) ?_
   rotate_left
   ·intro X D
    have F := a3.out
    rw [D]
    clear D
    go_simp
    first | with_reducible rfl | rw [if_neg (by omega)]
   refine nm ?_
   refine tK3 4 ?_
   refine wpX_takeD 7 (some 24) (v := ?_) rfl rfl (by kernel_rfl) (fun _ _ _ h => h) g (Or.inl ⟨by rfl, ?_⟩) ?_
   rotate_left
   ·intro X D
    have E := a5.out
    rw [D]
    clear D
    go_simp
    first | with_reducible rfl | rw [if_neg (by omega)]
   refine nm ?_
   refine tK1 8 ?_
   refine nm ?_
   refine dn ?_
   clear g
   go_wp2
   go_roundg (j - (i + 1))
   case measure => omega
   case rel => exact ⟨i + 1, by omega, rfl, congrArg (Value.int .i64) a0, H⟩
  ·obtain rfl : i = j := by omega
   have a6 : ¬ (i : Int) < (i : Int) := by omega
   go_wp2
   go_ret
   exact ⟨rfl, G⟩
end Go.Proofs.YtgppcdfgdaggjaaGreatDoor
set_option maxRecDepth 100000
set_option maxHeartbeats 8000000
namespace Go.Proofs.YtgppcdfgdaggjaaGreatDoor
open Go.RowKit Go.Maps
def SxOk (x : Ex) : Prop := ∀ (cs1 cs2 : List Value) (W : World), ExL (fun _ => True) W cs1 x → ExL (fun _ => True) W cs2 x → Calls Tryz.prog 46 #[.agg cs1.toArray, .agg cs2.toArray] W (Yes W)
theorem sxe_step (k n : Int) (s : ByteArray) (sl : Int) (lo : Bool) (E : Int) (args : List Ex) (IH : ∀ x ∈ args, SxOk x) : SxOk (.mk k n s sl lo E args) := by
 intro d7 b5 w c9 b9
 obtain ⟨a8, b7, a9⟩ := under58
 have d9 : Tryz.prog.follows .mixedOrders = true := by kernel_rfl
 unfold ExL at c9 b9
 obtain ⟨H, c1, a0, Z, d0⟩ := c9
 obtain ⟨N, c2, a3, -, d6⟩ := b9
 have b6 : XlAt w H args := d0
 have d2 : XlAt w N args := d6
 obtain ⟨g, hN⟩ : ∃ g, args.length = g := ⟨_, rfl⟩
 rw [hN] at a0 a3 Z
 have e8 : Hid (d7 = exC k n s sl lo E (.slice H g c1)) := O a0
 have e1 : Hid (b5 = exC k n s sl lo E (.slice N g c2)) := O a3
 have HN := O hN
 have e2 := O b6
 have e6 := O d2
 have e7 := O IH
 have d3 := O fun _ : True => Z
 clear a0 a3 Z d0 d6 b6 d2 IH hN
 go_enter Tryz.func46, Tryz.ntmps46
 refine wk fun V J => ?_
 go_wp2_with (first
  | ((with_reducible refine at1 2 (.box 58 _) ?_); refine wpList_box_blk rfl (.tmp 0) rfl d7 rfl w.heap.size rfl ?_; intro M k1 b1 b8; have Y := O k1; have X := O b1; clear k1 b1)
  | ((with_reducible refine at1 3 (.box 58 _) ?_); refine wpList_box_blk rfl (.tmp 1) rfl b5 rfl (w.heap.size + 1) b8 ?_; intro C k2 b2 s2; have K2 := O k2; have B2 := O b2; clear k2 b2)
  | fail)
 refine J.out _ _ ?_
 clear J V
 obtain ⟨z, Q⟩ : ∃ z, w.heap.size = z := ⟨_, rfl⟩
 rw [Q] at Y K2
 rw [Q]
 have A : Hid (Below w.heap.size w C ∧ Blk C z 58 (exC k n s sl lo E (.slice H g c1)) ∧ Blk C (z + 1) 58 (exC k n s sl lo E (.slice N g c2))) := O (by
  rw [← e8.out, ← e1.out]
  have e3 := X.out.trans (B2.out.mono (by have := X.out.size; omega))
  exact ⟨e3, Y.out.below B2.out, K2.out⟩)
 have HZ := O Q
 clear Y K2 X B2 b8 s2 Q
 refine wk fun V J => ?_
 have p0 : C.cell? ⟨z, 0, none⟩ = some (.int .i64 k) := A.out.2.1.cell 0
 have p1 : C.cell? ⟨z, 1, none⟩ = some (.int .i64 n) := A.out.2.1.cell 1
 have p2 : C.cell? ⟨z, 2, none⟩ = some (.string s) := A.out.2.1.cell 2
 have p3 : C.cell? ⟨z, 3, none⟩ = some (.int .i64 sl) := A.out.2.1.cell 3
 have p4 : C.cell? ⟨z, 4, none⟩ = some (.bool lo) := A.out.2.1.cell 4
 have p5 : C.cell? ⟨z, 5, none⟩ = some (.int .i64 E) := A.out.2.1.cell 5
 have p6 : C.cell? ⟨z, 6, none⟩ = some (.slice H g c1) := A.out.2.1.cell 6
 have q0 : C.cell? ⟨z + 1, 0, none⟩ = some (.int .i64 k) := A.out.2.2.cell 0
 have q1 : C.cell? ⟨z + 1, 1, none⟩ = some (.int .i64 n) := A.out.2.2.cell 1
 have q2 : C.cell? ⟨z + 1, 2, none⟩ = some (.string s) := A.out.2.2.cell 2
 have q3 : C.cell? ⟨z + 1, 3, none⟩ = some (.int .i64 sl) := A.out.2.2.cell 3
 have q4 : C.cell? ⟨z + 1, 4, none⟩ = some (.bool lo) := A.out.2.2.cell 4
 have q5 : C.cell? ⟨z + 1, 5, none⟩ = some (.int .i64 E) := A.out.2.2.cell 5
 have q6 : C.cell? ⟨z + 1, 6, none⟩ = some (.slice N g c2) := A.out.2.2.cell 6
 go_wp2_with fail
 refine J.out _ _ ?_
 clear J V p0 p1 p2 p3 p4 p5 p6 q0 q1 q2 q3 q4 q5 q6
 refine wk fun V J => ?_
 go_wp2_with fail
 go_loopg [5] g (fun x iv wr => ∃ i : Nat, i ≤ g ∧ x = g - i ∧ iv = I i ∧ Hid (Below w.heap.size w wr ∧ Blk wr z 58 (exC k n s sl lo E (.slice H g c1)) ∧ Blk wr (z + 1) 58 (exC k n s sl lo E (.slice N g c2))))
 case atStart => exact ⟨0, Nat.zero_le _, rfl, rfl, A⟩
 case round =>
  clear A
  obtain ⟨i, hi, rfl, rfl, A⟩ := hrel
  have p6 : wr.cell? ⟨z, 6, none⟩ = some (.slice H g c1) := A.out.2.1.cell 6
  by_cases a4 : i < g
  ·have f1 : (i : Int) < (g : Int) := by omega
   have e9 : (0 : Int) ≤ (i : Int) := by omega
   have e0 : Hid (wrap64 ((i : Int) + 1) = ((i + 1 : Nat) : Int)) := O (by
    have h1 := (d3.out trivial).1
    have h2 := (d3.out trivial).2
    have := IntWalk.wrap64_in ((i : Int) + 1) (by omega)
    rw [this]
    omega)
   obtain ⟨D, hV⟩ : ∃ D, wr.drew = D := ⟨_, rfl⟩
   have G : Hid (Below w.heap.size w D ∧ Blk D z 58 (exC k n s sl lo E (.slice H g c1)) ∧ Blk D (z + 1) 58 (exC k n s sl lo E (.slice N g c2))) := O (by rw [← hV]; exact ⟨A.out.1.trans (Below.refl _ _).drew, A.out.2.1.drew, A.out.2.2.drew⟩)
   obtain ⟨b1, o1, U, rfl, c8, d8⟩ := XlAt.at (XlAt.below e2.out G.out.1) (j := i) (by rw [HN.out]; exact a4)
   obtain ⟨b2, o2, S, rfl, d1, b4⟩ := XlAt.at (XlAt.below e6.out G.out.1) (j := i) (by rw [HN.out]; exact a4)
   have d4 : args.getD i zEx ∈ args := by
    rw [List.getD_eq_getElem?_getD, List.getElem?_eq_getElem (by rw [HN.out]; exact a4)]
    exact List.getElem_mem _
   have d5 := e7.out _ d4
   generalize args.getD i zEx = x at *
   have a7 := O d5
   have R : Hid (ExL (fun _ => True) D U x ∧ ExL (fun _ => True) D S x) := O ⟨d8, b4⟩
   have a6 : Hid (D.rangeAt b1 (o1 + i * 7) U ∧ D.rangeAt b2 (o2 + i * 7) S) := O ⟨c8, d1⟩
   clear d5 d8 b4 c8 d1 d4
   go_wp2_with fail
   refine wp_region_x [] (fun W' => Below D.heap.size D W') d9 ?_
   rw [hV]
   clear hV p6 A
   have F : Hid (Below D.heap.size D D) := O (Below.refl _ _)
   refine tk 0 (some 62) F ?_
   refine tf (fun M => M.cell? ⟨z, 6, none⟩ = some (.slice (some ⟨b1, o1, none⟩) g c1)) 1 (some 63) F (fun M a5 => (G.out.2.1.below a5).cell 6) ?_
   refine tk 2 (some 64) F ?_
   refine tk 3 (some 65) F ?_
   refine nm ?_
   refine tl 4 66 F 58 65 b1 (o1 + i * 7) U a8 (fun W hS => fun j u hu => below_cl hS _ _ _ (a6.out.1 j u hu)) b7 a9 (by rw [R.out.1.cells.1]; exact info58) ?_
   refine tk 5 (some 67) F ?_
   refine tf (fun M => M.cell? ⟨z + 1, 6, none⟩ = some (.slice (some ⟨b2, o2, none⟩) g c2)) 6 (some 68) F (fun M a5 => (G.out.2.2.below a5).cell 6) ?_
   refine tk 7 (some 69) F ?_
   refine nm ?_
   refine tk 8 (some 70) F ?_
   refine tl 9 71 F 58 70 b2 (o2 + i * 7) S a8 (fun W hS => fun j u hu => below_cl hS _ _ _ (a6.out.2 j u hu)) b7 a9 (by rw [R.out.2.cells.1]; exact info58) ?_
   refine nm ?_
   refine oD 10 fun e5 hK => ?_
   go_simp
   refine (a7.out U S D R.out.1 R.out.2).mono ?_
   rintro e W3 ⟨rfl, hb⟩
   have K := O hb
   refine hK _ _ (fun _ => K.out) ?_
   clear hK e5 hb
   try refine nm ?_
   refine tk 11 (some 73) K ?_
   refine nm ?_
   refine dn ?_
   have e4 : Hid (Below w.heap.size w W3 ∧ Blk W3 z 58 (exC k n s sl lo E (.slice (some ⟨b1, o1, none⟩) g c1)) ∧ Blk W3 (z + 1) 58 (exC k n s sl lo E (.slice (some ⟨b2, o2, none⟩) g c2))) := O ⟨G.out.1.trans (K.out.mono G.out.1.size), G.out.2.1.below K.out, G.out.2.2.below K.out⟩
   clear F K G R a6 a7
   go_wp2_with fail
   go_roundg (g - (i + 1))
   case measure => omega
   case rel => exact ⟨i + 1, by omega, rfl, congrArg (Value.int .i64) e0.out, e4⟩
  ·obtain rfl : i = g := by omega
   have f0 : ¬ (i : Int) < (i : Int) := by omega
   go_wp2_with fail
   refine J.out _ _ ?_
   go_wp2_with fail
   go_ret
   exact ⟨rfl, A.out.1⟩
mutual
theorem sxe_all : ∀ x : Ex, SxOk x
 | .mk k n s sl lo op args => sxe_step k n s sl lo op args (sxe_alls args)
theorem sxe_alls : ∀ (l : List Ex), ∀ x ∈ l, SxOk x
 | [], x, hx => by cases hx
 | y :: r, x, hx => by
  by_cases e : x = y
  ·rw [e]
   exact sxe_all y
  ·exact sxe_alls r x ((List.mem_cons.1 hx).resolve_left e)
end
end Go.Proofs.YtgppcdfgdaggjaaGreatDoor
set_option maxRecDepth 100000
set_option maxHeartbeats 8000000
namespace Go.Proofs.YtgppcdfgdaggjaaGreatDoor
open Go.RowKit Go.Maps
def SsOk (l : List St) : Prop := ∀ (a1 a2 : Option Addr) (c1 c2 : Nat) (W : World), Roomy l.length c1 → StsL (fun _ => True) W a1 0 l → StsL (fun _ => True) W a2 0 l → Calls Tryz.prog 18 #[.slice a1 l.length c1, .slice a2 l.length c2] W (Yes W)
def SpOk : St → Prop
 | .mk _ _ _ _ _ _ _ body els _ _ _ _ => SsOk body ∧ SsOk els
theorem sss_step (l : List St) (j7 : ∀ s ∈ l, SpOk s) : SsOk l := by
 intro a1 a2 c1 c2 w g3 N X
 obtain ⟨i9, l4, j6⟩ := under60
 obtain ⟨d5, b7, b9⟩ := under58
 obtain ⟨i6, z6, f4, f6, f3⟩ := zero60
 have l9 : Tryz.prog.follows .mixedOrders = true := by kernel_rfl
 obtain ⟨b4, hN⟩ : ∃ b4, l.length = b4 := ⟨_, rfl⟩
 rw [hN] at g3 ⊢
 have HN := O hN
 have H1 := O N
 have H2 := O X
 have o0 := O j7
 have k6 := O fun _ : True => g3
 clear g3 N X j7 hN
 go_enter Tryz.func18, Tryz.ntmps18
 refine wk fun KK d7 => ?_
 go_wp2_with fail
 refine d7.out _ _ ?_
 clear d7 KK
 refine wk fun KK d7 => ?_
 go_wp2_with fail
 refine d7.out _ _ ?_
 clear d7 KK
 refine wk fun KK d7 => ?_
 go_wp2_with fail
 go_loopg [5] b4 (fun x iv wr => ∃ i : Nat, i ≤ b4 ∧ x = b4 - i ∧ iv = .int .i64 (i : Int) ∧ Hid (Below w.heap.size w wr))
 case atStart => exact ⟨0, Nat.zero_le _, rfl, rfl, O (Below.refl _ _)⟩
 case round =>
  obtain ⟨i, hi, rfl, rfl, HB⟩ := hrel
  by_cases f9 : i < b4
  ·have p6 : (i : Int) < (b4 : Int) := by omega
   have o5 : (0 : Int) ≤ (i : Int) := by omega
   have k2 : Hid (wrap64 ((i : Int) + 1) = ((i + 1 : Nat) : Int)) := O (by
    have N := (k6.out trivial).1
    have X := (k6.out trivial).2
    have := IntWalk.wrap64_in ((i : Int) + 1) (by omega)
    rw [this]
    omega)
   obtain ⟨Q, hV⟩ : ∃ Q, wr.drew = Q := ⟨_, rfl⟩
   have e4 : Hid (Below w.heap.size w Q) := O (by rw [← hV]; exact HB.out.trans (Below.refl _ _).drew)
   obtain ⟨b1, o1, b6, rfl, -, k7, l6⟩ := (H1.out.lat e4.out).at i (by rw [HN.out]; exact f9)
   obtain ⟨b2, o2, d2, rfl, -, j9, j5⟩ := (H2.out.lat e4.out).at i (by rw [HN.out]; exact f9)
   have i7 : l.getD i default ∈ l := by
    rw [List.getD_eq_getElem?_getD, List.getElem?_eq_getElem (by rw [HN.out]; exact f9)]
    exact List.getElem_mem _
   have M := o0.out _ i7
   generalize l.getD i default = s at *
   obtain ⟨k, U, V, S, t, x, y, body, els, id, sl, ot, lo⟩ := s
   unfold StL at l6 j5
   obtain ⟨Z, a3, c9, b8, c8, b5, e5, h7, g5, k9, f0, j3, l5⟩ := l6
   obtain ⟨a0, a4, d1, d3, d4, d0, e6, h9, h3, -, e9, -, i8⟩ := j5
   obtain ⟨NB, g9⟩ : ∃ n, body.length = n := ⟨_, rfl⟩
   obtain ⟨NE, i0⟩ : ∃ n, els.length = n := ⟨_, rfl⟩
   rw [g9] at e5 e6
   rw [i0] at e5 e6
   have f2 : Hid (SsOk body ∧ SsOk els) := O M
   have e8 := O (And.intro g9 i0)
   have R := O (And.intro h7 h9)
   have HY := O (And.intro g5 h3)
   have e2 := O (And.intro k9 (And.intro f0 e9))
   have e3 := O (And.intro j3 (And.intro l5 i8))
   have g8 : Hid (b6.length = 25 ∧ ∀ v ∈ b6, v.oneCell' = true) := O (by rw [show b6 = stC k U V S t Z a3 (.slice c9 NB c8) (.slice b8 NE b5) id sl ot lo from e5]; exact stC_one h7.cells g5.cells)
   have h8 : Hid (d2.length = 25 ∧ ∀ v ∈ d2, v.oneCell' = true) := O (by rw [show d2 = stC k U V S t a0 a4 (.slice d1 NB d4) (.slice d3 NE d0) id sl ot lo from e6]; exact stC_one h9.cells h3.cells)
   have e7 : Hid (b6 = stC k U V S t Z a3 (.slice c9 NB c8) (.slice b8 NE b5) id sl ot lo ∧ d2 = stC k U V S t a0 a4 (.slice d1 NB d4) (.slice d3 NE d0) id sl ot lo) := O ⟨e5, e6⟩
   have j4 : Hid (Q.rangeAt b1 (o1 + i * 25) b6 ∧ Q.rangeAt b2 (o2 + i * 25) d2) := O ⟨fun t v hv => by simpa using k7 t v hv, fun t v hv => by simpa using j9 t v hv⟩
   clear M h7 h9 g5 h3 k9 f0 e9 j3 l5 i8 k7 j9 i7 e5 e6 g9 i0
   go_wp2_with fail
   refine wp_region_x [] (fun W' => Below Q.heap.size Q W') l9 ?_
   rw [hV]
   clear hV HB
   have HS : Hid (Below Q.heap.size Q Q) := O (Below.refl _ _)
   refine tk 0 (some 19) HS ?_
   refine tk 1 (some 20) HS ?_
   refine tk 2 (some 21) HS ?_
   refine tl 3 22 HS 60 21 b1 (o1 + i * 25) b6 i9 (fun W hS => fun j u hu => below_cl hS _ _ _ (j4.out.1 j u hu)) l4 j6 (by rw [g8.out.1]; exact info64) ?_
   refine nm ?_
   refine tk 4 (some 23) HS ?_
   refine tk 5 (some 24) HS ?_
   refine tk 6 (some 25) HS ?_
   refine tl 7 26 HS 60 25 b2 (o2 + i * 25) d2 i9 (fun W hS => fun j u hu => below_cl hS _ _ _ (j4.out.2 j u hu)) l4 j6 (by rw [h8.out.1]; exact info64) ?_
   refine nm ?_
   refine wpX_three [8, 9] (by kernel_rfl) ?_ (by decide)
   intro i hi
   simp only [List.mem_cons, List.not_mem_nil, or_false] at hi
   rcases hi with rfl | rfl
   ·refine ⟨_, rfl, rfl, fun G H => ?_⟩
    obtain ⟨J, f0⟩ : ∃ b, Q.heap.size = b := ⟨_, rfl⟩
    refine wp_alloc_blk f4 f6 f3 rfl J f0 ?_
    intro X1 D g o6
    have f5 := O (HS.out.trans (g.mono HS.out.size))
    have m8 := O D
    have l3 : Hid (Q.heap.size ≤ J ∧ J < X1.heap.size) := O ⟨by have := HS.out.size; omega, D.lt⟩
    change G (Act.put _ (some 6) _) X1
    refine H _ _ (fun _ => f5.out) ?_
    clear H G D g
    refine nm ?_
    refine oD 9 fun G H => ?_
    obtain ⟨K, e9⟩ : ∃ b, X1.heap.size = b := ⟨_, rfl⟩
    refine wp_alloc_blk f4 f6 f3 rfl K e9 ?_
    intro X2 D g o9
    have k1 := O (f5.out.trans (g.mono f5.out.size))
    have m0 := O D
    have m9 : Hid (Q.heap.size ≤ K ∧ K < X2.heap.size) := O ⟨by have := f5.out.size; omega, D.lt⟩
    have l7 := O (m8.out.below g)
    have k0 : Hid (J ≠ K) := O (by have N := l3.out.2; omega)
    change G (Act.put _ (some 7) _) X2
    refine H _ _ (fun _ => k1.out) ?_
    clear H G D g
    refine nm ?_
    refine oD 10 fun G H => ?_
    refine wp_store_ch info64 (.tmp 6) (.tmp 22) rfl J b6 _ rfl rfl l7.out rfl g8.out ?_
    intro X3 D Y
    have j2 := O (Y.below l3.out.1 k1.out)
    have m7 := O D
    have n6 := O (Y.blk (by have := k0.out; omega) m0.out)
    change G (Act.put _ none _) X3
    refine H _ _ (fun _ => j2.out) ?_
    clear H G D Y
    refine oD 11 fun G H => ?_
    refine wp_store_ch info64 (.tmp 7) (.tmp 26) rfl K d2 _ rfl rfl n6.out rfl h8.out ?_
    intro X4 D Y
    have i5 := O (Y.below m9.out.1 j2.out)
    have n0 := O D
    have n9 := O (Y.blk (by have := k0.out; omega) m7.out)
    change G (Act.put _ none _) X4
    refine H _ _ (fun _ => i5.out) ?_
    clear H G D Y
    try simp only [Act.put]
    refine dn ?_
    have HV := O i5.out
    have A : Hid (Blk X4 J 60 (stC k U V S t Z a3 (.slice c9 NB c8) (.slice b8 NE b5) id sl ot lo) ∧ Blk X4 K 60 (stC k U V S t a0 a4 (.slice d1 NB d4) (.slice d3 NE d0) id sl ot lo)) := O (by rw [← e7.out.1, ← e7.out.2]; exact ⟨n9.out, n0.out⟩)
    generalize X4 = U0 at *
    have F := O (stC_at rfl R.out.1.cells.1 HY.out.1.cells.1 (C := stC k U V S t Z a3 (.slice c9 NB c8) (.slice b8 NE b5) id sl ot lo))
    have E := O (stC_at rfl R.out.2.cells.1 HY.out.2.cells.1 (C := stC k U V S t a0 a4 (.slice d1 NB d4) (.slice d3 NE d0) id sl ot lo))
    have p0 := (A.out.1.cell 0).trans F.out.1
    have p1 := (A.out.1.cell 1).trans F.out.2.1
    have p2 := (A.out.1.cell 2).trans F.out.2.2.1
    have p3 := (A.out.1.cell 3).trans F.out.2.2.2.1
    have p4 := (A.out.1.cell 4).trans F.out.2.2.2.2.1
    have h4 := (A.out.1.cell 21).trans F.out.2.2.2.2.2.2.2.1
    have i1 := (A.out.1.cell 22).trans F.out.2.2.2.2.2.2.2.2.1
    have g4 := (A.out.1.cell 23).trans F.out.2.2.2.2.2.2.2.2.2.1
    have g6 := (A.out.1.cell 24).trans F.out.2.2.2.2.2.2.2.2.2.2
    have q0 := (A.out.2.cell 0).trans E.out.1
    have q1 := (A.out.2.cell 1).trans E.out.2.1
    have q2 := (A.out.2.cell 2).trans E.out.2.2.1
    have q3 := (A.out.2.cell 3).trans E.out.2.2.2.1
    have q4 := (A.out.2.cell 4).trans E.out.2.2.2.2.1
    have h0 := (A.out.2.cell 21).trans E.out.2.2.2.2.2.2.2.1
    have i3 := (A.out.2.cell 22).trans E.out.2.2.2.2.2.2.2.2.1
    have i4 := (A.out.2.cell 23).trans E.out.2.2.2.2.2.2.2.2.2.1
    have f7 := (A.out.2.cell 24).trans E.out.2.2.2.2.2.2.2.2.2.2
    have e0 := O (And.intro (ExL.sub R.out.1 HV.out) (ExL.sub R.out.2 HV.out))
    have d8 : Hid (U0.rangeAt J 5 Z ∧ U0.rangeAt K 5 a0) := O (by
     have N := A.out.1
     have X := A.out.2
     rw [stC_x] at N X
     exact ⟨Blk.range N rfl, Blk.range X rfl⟩)
    go_wp2_with (first
     | ((with_reducible refine at1 82 (.load 58 _) ?_); refine wpList_load_mid rfl 58 (.tmp 81) rfl J 5 rfl Z d5 d8.out.1 b7 b9 (by rw [R.out.1.cells.1]; exact info58) ?_)
     | ((with_reducible refine at1 84 (.load 58 _) ?_); refine wpList_load_mid rfl 58 (.tmp 83) rfl K 5 rfl a0 d5 d8.out.2 b7 b9 (by rw [R.out.2.cells.1]; exact info58) ?_)
     | fail)
    refine (sxe_all x Z a0 U0 e0.out.1 e0.out.2).mono ?_
    clear p0 p1 p2 p3 p4 h4 i1 g4 g6 q0 q1 q2 q3 q4 h0 i3 i4 f7 e0 d8
    rintro e U1 ⟨rfl, g⟩
    have a6 := O (HV.out.trans (g.mono HV.out.size))
    have a7 := O (And.intro (A.out.1.below g) (A.out.2.below g))
    clear g A HV
    have e1 := O (And.intro (ExL.sub HY.out.1 a6.out) (ExL.sub HY.out.2 a6.out))
    have d6 : Hid (U1.rangeAt J 12 a3 ∧ U1.rangeAt K 12 a4) := O (by
     have N := a7.out.1
     have X := a7.out.2
     rw [stC_y] at N X
     have g1 := Blk.range N rfl
     have g2 := Blk.range X rfl
     rw [show (Value.int .i64 k :: .int .i64 U :: .int .i64 V :: .string S :: .string t :: Z).length = 12 by simp [R.out.1.cells.1]] at g1
     rw [show (Value.int .i64 k :: .int .i64 U :: .int .i64 V :: .string S :: .string t :: a0).length = 12 by simp [R.out.2.cells.1]] at g2
     exact ⟨g1, g2⟩)
    go_wp2_with (first
     | ((with_reducible refine at1 89 (.load 58 _) ?_); refine wpList_load_g rfl 58 (.tmp 88) rfl J 12 rfl a3 d5 d6.out.1 b7 b9 (by rw [HY.out.1.cells.1]; exact info58) ?_)
     | ((with_reducible refine at1 91 (.load 58 _) ?_); refine wpList_load_g rfl 58 (.tmp 90) rfl K 12 rfl a4 d5 d6.out.2 b7 b9 (by rw [HY.out.2.cells.1]; exact info58) ?_)
     | fail)
    refine (sxe_all y a3 a4 U1 e1.out.1 e1.out.2).mono ?_
    clear e1 d6
    rintro e U2 ⟨rfl, g⟩
    have a9 := O (a6.out.trans (g.mono a6.out.size))
    have a5 := O (And.intro (a7.out.1.below g) (a7.out.2.below g))
    clear g a7 a6
    have i2 := (a5.out.1.cell 19).trans F.out.2.2.2.2.2.1
    have h5 := (a5.out.2.cell 19).trans E.out.2.2.2.2.2.1
    have M := f2.out.1 c9 d1 c8 d4 U2 e2.out.1 (e2.out.2.1.lat a9.out) (e2.out.2.2.lat a9.out)
    rw [e8.out.1] at M
    go_wp2_with fail
    refine M.mono ?_
    clear M i2 h5
    rintro e U3 ⟨rfl, g⟩
    have a8 := O (a9.out.trans (g.mono a9.out.size))
    have d9 := O (And.intro (a5.out.1.below g) (a5.out.2.below g))
    clear g a5 a9
    have f8 := (d9.out.1.cell 20).trans F.out.2.2.2.2.2.2.1
    have h6 := (d9.out.2.cell 20).trans E.out.2.2.2.2.2.2.1
    have M := f2.out.2 b8 d3 b5 d0 U3 e3.out.1 (e3.out.2.1.lat a8.out) (e3.out.2.2.lat a8.out)
    rw [e8.out.2] at M
    go_wp2_with fail
    refine M.mono ?_
    clear M f8 h6
    rintro e U4 ⟨rfl, g⟩
    have g7 := O (e4.out.trans ((a8.out.trans (g.mono a8.out.size)).mono e4.out.size))
    clear g d9 a8
    go_wp2_with fail
    go_roundg (b4 - (i + 1))
    case measure => omega
    case rel => exact ⟨i + 1, by omega, rfl, congrArg (Value.int .i64) k2.out, g7⟩
   ·refine ⟨_, rfl, rfl, fun G H => ?_⟩
    obtain ⟨K, n8⟩ : ∃ b, Q.heap.size = b := ⟨_, rfl⟩
    refine wp_alloc_blk f4 f6 f3 rfl K n8 ?_
    intro X5 D g o8
    have f1 := O (HS.out.trans (g.mono HS.out.size))
    have m1 := O D
    have j8 : Hid (Q.heap.size ≤ K ∧ K < X5.heap.size) := O ⟨by have := HS.out.size; omega, D.lt⟩
    change G (Act.put _ (some 7) _) X5
    refine H _ _ (fun _ => f1.out) ?_
    clear H G D g
    refine nm ?_
    refine oD 8 fun G H => ?_
    obtain ⟨J, m2⟩ : ∃ b, X5.heap.size = b := ⟨_, rfl⟩
    refine wp_alloc_blk f4 f6 f3 rfl J m2 ?_
    intro X6 D g p5
    have k8 := O (f1.out.trans (g.mono f1.out.size))
    have n5 := O D
    have m5 : Hid (Q.heap.size ≤ J ∧ J < X6.heap.size) := O ⟨by have := f1.out.size; omega, D.lt⟩
    have m3 := O (m1.out.below g)
    have l2 : Hid (J ≠ K) := O (by have N := j8.out.2; omega)
    change G (Act.put _ (some 6) _) X6
    refine H _ _ (fun _ => k8.out) ?_
    clear H G D g
    refine nm ?_
    refine oD 10 fun G H => ?_
    refine wp_store_ch info64 (.tmp 6) (.tmp 22) rfl J b6 _ rfl rfl n5.out rfl g8.out ?_
    intro X7 D Y
    have j1 := O (Y.below m5.out.1 k8.out)
    have m6 := O D
    have l8 := O (Y.blk (by have := l2.out; omega) m3.out)
    change G (Act.put _ none _) X7
    refine H _ _ (fun _ => j1.out) ?_
    clear H G D Y
    refine oD 11 fun G H => ?_
    refine wp_store_ch info64 (.tmp 7) (.tmp 26) rfl K d2 _ rfl rfl l8.out rfl h8.out ?_
    intro X8 D Y
    have j0 := O (Y.below j8.out.1 j1.out)
    have n7 := O D
    have m4 := O (Y.blk (by have := l2.out; omega) m6.out)
    change G (Act.put _ none _) X8
    refine H _ _ (fun _ => j0.out) ?_
    clear H G D Y
    try simp only [Act.put]
    refine dn ?_
    have HV := O j0.out
    have A : Hid (Blk X8 J 60 (stC k U V S t Z a3 (.slice c9 NB c8) (.slice b8 NE b5) id sl ot lo) ∧ Blk X8 K 60 (stC k U V S t a0 a4 (.slice d1 NB d4) (.slice d3 NE d0) id sl ot lo)) := O (by rw [← e7.out.1, ← e7.out.2]; exact ⟨m4.out, n7.out⟩)
    generalize X8 = U0 at *
    have F := O (stC_at rfl R.out.1.cells.1 HY.out.1.cells.1 (C := stC k U V S t Z a3 (.slice c9 NB c8) (.slice b8 NE b5) id sl ot lo))
    have E := O (stC_at rfl R.out.2.cells.1 HY.out.2.cells.1 (C := stC k U V S t a0 a4 (.slice d1 NB d4) (.slice d3 NE d0) id sl ot lo))
    have p0 := (A.out.1.cell 0).trans F.out.1
    have p1 := (A.out.1.cell 1).trans F.out.2.1
    have p2 := (A.out.1.cell 2).trans F.out.2.2.1
    have p3 := (A.out.1.cell 3).trans F.out.2.2.2.1
    have p4 := (A.out.1.cell 4).trans F.out.2.2.2.2.1
    have h4 := (A.out.1.cell 21).trans F.out.2.2.2.2.2.2.2.1
    have i1 := (A.out.1.cell 22).trans F.out.2.2.2.2.2.2.2.2.1
    have g4 := (A.out.1.cell 23).trans F.out.2.2.2.2.2.2.2.2.2.1
    have g6 := (A.out.1.cell 24).trans F.out.2.2.2.2.2.2.2.2.2.2
    have q0 := (A.out.2.cell 0).trans E.out.1
    have q1 := (A.out.2.cell 1).trans E.out.2.1
    have q2 := (A.out.2.cell 2).trans E.out.2.2.1
    have q3 := (A.out.2.cell 3).trans E.out.2.2.2.1
    have q4 := (A.out.2.cell 4).trans E.out.2.2.2.2.1
    have h0 := (A.out.2.cell 21).trans E.out.2.2.2.2.2.2.2.1
    have i3 := (A.out.2.cell 22).trans E.out.2.2.2.2.2.2.2.2.1
    have i4 := (A.out.2.cell 23).trans E.out.2.2.2.2.2.2.2.2.2.1
    have f7 := (A.out.2.cell 24).trans E.out.2.2.2.2.2.2.2.2.2.2
    have e0 := O (And.intro (ExL.sub R.out.1 HV.out) (ExL.sub R.out.2 HV.out))
    have d8 : Hid (U0.rangeAt J 5 Z ∧ U0.rangeAt K 5 a0) := O (by
     have N := A.out.1
     have X := A.out.2
     rw [stC_x] at N X
     exact ⟨Blk.range N rfl, Blk.range X rfl⟩)
    go_wp2_with (first
     | ((with_reducible refine at1 82 (.load 58 _) ?_); refine wpList_load_mid rfl 58 (.tmp 81) rfl J 5 rfl Z d5 d8.out.1 b7 b9 (by rw [R.out.1.cells.1]; exact info58) ?_)
     | ((with_reducible refine at1 84 (.load 58 _) ?_); refine wpList_load_mid rfl 58 (.tmp 83) rfl K 5 rfl a0 d5 d8.out.2 b7 b9 (by rw [R.out.2.cells.1]; exact info58) ?_)
     | fail)
    refine (sxe_all x Z a0 U0 e0.out.1 e0.out.2).mono ?_
    clear p0 p1 p2 p3 p4 h4 i1 g4 g6 q0 q1 q2 q3 q4 h0 i3 i4 f7 e0 d8
    rintro e U1 ⟨rfl, g⟩
    have a6 := O (HV.out.trans (g.mono HV.out.size))
    have a7 := O (And.intro (A.out.1.below g) (A.out.2.below g))
    clear g A HV
    have e1 := O (And.intro (ExL.sub HY.out.1 a6.out) (ExL.sub HY.out.2 a6.out))
    have d6 : Hid (U1.rangeAt J 12 a3 ∧ U1.rangeAt K 12 a4) := O (by
     have N := a7.out.1
     have X := a7.out.2
     rw [stC_y] at N X
     have g1 := Blk.range N rfl
     have g2 := Blk.range X rfl
     rw [show (Value.int .i64 k :: .int .i64 U :: .int .i64 V :: .string S :: .string t :: Z).length = 12 by simp [R.out.1.cells.1]] at g1
     rw [show (Value.int .i64 k :: .int .i64 U :: .int .i64 V :: .string S :: .string t :: a0).length = 12 by simp [R.out.2.cells.1]] at g2
     exact ⟨g1, g2⟩)
    go_wp2_with (first
     | ((with_reducible refine at1 89 (.load 58 _) ?_); refine wpList_load_g rfl 58 (.tmp 88) rfl J 12 rfl a3 d5 d6.out.1 b7 b9 (by rw [HY.out.1.cells.1]; exact info58) ?_)
     | ((with_reducible refine at1 91 (.load 58 _) ?_); refine wpList_load_g rfl 58 (.tmp 90) rfl K 12 rfl a4 d5 d6.out.2 b7 b9 (by rw [HY.out.2.cells.1]; exact info58) ?_)
     | fail)
    refine (sxe_all y a3 a4 U1 e1.out.1 e1.out.2).mono ?_
    clear e1 d6
    rintro e U2 ⟨rfl, g⟩
    have a9 := O (a6.out.trans (g.mono a6.out.size))
    have a5 := O (And.intro (a7.out.1.below g) (a7.out.2.below g))
    clear g a7 a6
    have i2 := (a5.out.1.cell 19).trans F.out.2.2.2.2.2.1
    have h5 := (a5.out.2.cell 19).trans E.out.2.2.2.2.2.1
    have M := f2.out.1 c9 d1 c8 d4 U2 e2.out.1 (e2.out.2.1.lat a9.out) (e2.out.2.2.lat a9.out)
    rw [e8.out.1] at M
    go_wp2_with fail
    refine M.mono ?_
    clear M i2 h5
    rintro e U3 ⟨rfl, g⟩
    have a8 := O (a9.out.trans (g.mono a9.out.size))
    have d9 := O (And.intro (a5.out.1.below g) (a5.out.2.below g))
    clear g a5 a9
    have f8 := (d9.out.1.cell 20).trans F.out.2.2.2.2.2.2.1
    have h6 := (d9.out.2.cell 20).trans E.out.2.2.2.2.2.2.1
    have M := f2.out.2 b8 d3 b5 d0 U3 e3.out.1 (e3.out.2.1.lat a8.out) (e3.out.2.2.lat a8.out)
    rw [e8.out.2] at M
    go_wp2_with fail
    refine M.mono ?_
    clear M f8 h6
    rintro e U4 ⟨rfl, g⟩
    have g7 := O (e4.out.trans ((a8.out.trans (g.mono a8.out.size)).mono e4.out.size))
    clear g d9 a8
    go_wp2_with fail
    go_roundg (b4 - (i + 1))
    case measure => omega
    case rel => exact ⟨i + 1, by omega, rfl, congrArg (Value.int .i64) k2.out, g7⟩
  ·obtain rfl : i = b4 := by omega
   have o7 : ¬ (i : Int) < (i : Int) := by omega
   go_wp2_with fail
   refine d7.out _ _ ?_
   go_wp2_with fail
   go_ret
   exact ⟨rfl, HB.out⟩
mutual
theorem sps_all : ∀ s : St, SpOk s
 | .mk k l c s t x y body els id sl ot lo => by
  show SsOk body ∧ SsOk els
  exact ⟨sss_step body (spss_all body), sss_step els (spss_all els)⟩
theorem spss_all : ∀ (l : List St), ∀ s ∈ l, SpOk s
 | [], s, hs => by cases hs
 | y :: r, s, hs => by
  by_cases e : s = y
  ·rw [e]
   exact sps_all y
  ·exact spss_all r s ((List.mem_cons.1 hs).resolve_left e)
end
theorem sss_all (l : List St) : SsOk l := sss_step l (spss_all l)
end Go.Proofs.YtgppcdfgdaggjaaGreatDoor
set_option maxRecDepth 100000
set_option maxHeartbeats 8000000
namespace Go.Proofs.YtgppcdfgdaggjaaGreatDoor
open Go.RowKit Go.Maps
theorem info28 : (Tryz.prog.info? 28).map (·.size) = some 5 := by kernel_rfl
theorem under28 : ∃ d, Tryz.prog.underlying 28 = some d ∧ d.isRow = true := by
 have h : (Tryz.prog.underlying 28).map (·.isRow) = some true := by kernel_rfl
 obtain ⟨d, g, j⟩ := Option.map_eq_some_iff.1 h
 exact ⟨d, g, j⟩
theorem zero28 : ∃ i z, Tryz.prog.info? 28 = some i ∧ i.zero = some z ∧ z.cells = (List.replicate 5 (.slice none 0 0) : List Value).toArray := infoZ (by kernel_rfl)
theorem PgL.at {ok : Nat → Prop} {w W : World} {P : Pg} {v0 v1 v2 v3 v4 n1 n2 n3 n4 : Value} (h : PgL ok w P v0 v1 v2 v3 v4 n1 n2 n3 n4) (g : bL w W) : PgL (fun _ => True) W P v0 v1 v2 v3 v4 n1 n2 n3 n4 := (h.keep fun b o u _ j => below_cell g b o u j).weak fun _ _ => trivial
theorem ro_one {g : Type} {E : El g} {ok : Nat → Prop} {w : World} {v : Value} {l : List g} (h : Ro E ok w v l) : v.oneCell' = true := by
 obtain ⟨a, cap, rfl, -⟩ := h
 rfl
theorem same_tail {Q Q0 : Nat → Prop} {w W : World} {P : Pg} {v6 v7 v8 v0 n1 n2 n3 n4 v9 u0 u1 v1 v2 v3 v4 v5 : Value} {a0 a1 : Option Addr} {g n0 j z n5 n6 : Nat} {u2 u3 u4 : Value} (d5 : Tryz.prog.follows .mixedOrders = true) (HN : Hid (P.threads.length = j)) (b8 : Hid (True → Roomy j g)) (G1 : Hid (PgL Q w P v6 v7 v8 (.slice a0 j g) v0 n1 n2 n3 n4)) (G2 : Hid (PgL Q0 w P v9 u0 u1 (.slice a1 j n0) v1 v2 v3 v4 v5)) (J : Hid (bL w W ∧ (Blk W z 30 (pgC P v6 v7 v8 (.slice a0 j g) v0 n1 n2 n3 n4 []) ∧ Blk W (z + 1) 30 (pgC P v9 u0 u1 (.slice a1 j n0) v1 v2 v3 v4 v5 [])) ∧ Blk W n5 28 [v0, n1, n2, n3, n4] ∧ Blk W n6 28 [v1, v2, v3, v4, v5])) {l2 : List Value} (hU : l2.length = 153 := by rfl) :
  Code.wp Tryz.prog (dropS 3 (Tryz.f12.body.getD .skip)) (bodyPost Tryz.prog Tryz.f12 (Yes w)) ⟨(u2 :: u3 :: Pt z :: Pt (z + 1) :: u4 :: Pt n5 :: Pt n6 :: l2).toArray, []⟩ W := by
 revert l2
 apply aN
 iterate 153 intro _
 change Code.wp _ _ _ _ _
 conv in (dropS _ _) => whnf
 refine wk fun KK a3 => ?_
 have p0 : W.cell? ⟨n5, 0, none⟩ = some (v0) := J.out.2.2.1.cell 0
 have q0 : W.cell? ⟨n6, 0, none⟩ = some (v1) := J.out.2.2.2.cell 0
 go_wp2_with fail
 refine (rstrs_yes P.nv (G1.out.at J.out.1).nv (G2.out.at J.out.1).nv).mono ?_
 rintro e Y1 ⟨rfl, C⟩
 have K : Hid (bL w Y1 ∧ (Blk Y1 z 30 (pgC P v6 v7 v8 (.slice a0 j g) v0 n1 n2 n3 n4 []) ∧ Blk Y1 (z + 1) 30 (pgC P v9 u0 u1 (.slice a1 j n0) v1 v2 v3 v4 v5 [])) ∧ Blk Y1 n5 28 [v0, n1, n2, n3, n4] ∧ Blk Y1 n6 28 [v1, v2, v3, v4, v5]) := O ⟨J.out.1.trans (C.mono J.out.1.size), ⟨J.out.2.1.1.below C, J.out.2.1.2.below C⟩, J.out.2.2.1.below C, J.out.2.2.2.below C⟩
 clear C J p0 q0
 have p1 : Y1.cell? ⟨n5, 1, none⟩ = some (n1) := K.out.2.2.1.cell 1
 have q1 : Y1.cell? ⟨n6, 1, none⟩ = some (v2) := K.out.2.2.2.cell 1
 go_wp2_with fail
 refine (rstrs_yes P.na (G1.out.at K.out.1).na (G2.out.at K.out.1).na).mono ?_
 rintro e X ⟨rfl, C⟩
 have N : Hid (bL w X ∧ (Blk X z 30 (pgC P v6 v7 v8 (.slice a0 j g) v0 n1 n2 n3 n4 []) ∧ Blk X (z + 1) 30 (pgC P v9 u0 u1 (.slice a1 j n0) v1 v2 v3 v4 v5 [])) ∧ Blk X n5 28 [v0, n1, n2, n3, n4] ∧ Blk X n6 28 [v1, v2, v3, v4, v5]) := O ⟨K.out.1.trans (C.mono K.out.1.size), ⟨K.out.2.1.1.below C, K.out.2.1.2.below C⟩, K.out.2.2.1.below C, K.out.2.2.2.below C⟩
 clear C K p1 q1
 have p2 : X.cell? ⟨n5, 2, none⟩ = some (n2) := N.out.2.2.1.cell 2
 have q2 : X.cell? ⟨n6, 2, none⟩ = some (v3) := N.out.2.2.2.cell 2
 go_wp2_with fail
 refine (rstrs_yes P.nm (G1.out.at N.out.1).nm (G2.out.at N.out.1).nm).mono ?_
 rintro e Y ⟨rfl, C⟩
 have G : Hid (bL w Y ∧ (Blk Y z 30 (pgC P v6 v7 v8 (.slice a0 j g) v0 n1 n2 n3 n4 []) ∧ Blk Y (z + 1) 30 (pgC P v9 u0 u1 (.slice a1 j n0) v1 v2 v3 v4 v5 [])) ∧ Blk Y n5 28 [v0, n1, n2, n3, n4] ∧ Blk Y n6 28 [v1, v2, v3, v4, v5]) := O ⟨N.out.1.trans (C.mono N.out.1.size), ⟨N.out.2.1.1.below C, N.out.2.1.2.below C⟩, N.out.2.2.1.below C, N.out.2.2.2.below C⟩
 clear C N p2 q2
 have p3 : Y.cell? ⟨n5, 3, none⟩ = some (n3) := G.out.2.2.1.cell 3
 have q3 : Y.cell? ⟨n6, 3, none⟩ = some (v4) := G.out.2.2.2.cell 3
 go_wp2_with fail
 refine (rstrs_yes P.nc (G1.out.at G.out.1).nc (G2.out.at G.out.1).nc).mono ?_
 rintro e Z ⟨rfl, C⟩
 have M : Hid (bL w Z ∧ (Blk Z z 30 (pgC P v6 v7 v8 (.slice a0 j g) v0 n1 n2 n3 n4 []) ∧ Blk Z (z + 1) 30 (pgC P v9 u0 u1 (.slice a1 j n0) v1 v2 v3 v4 v5 [])) ∧ Blk Z n5 28 [v0, n1, n2, n3, n4] ∧ Blk Z n6 28 [v1, v2, v3, v4, v5]) := O ⟨G.out.1.trans (C.mono G.out.1.size), ⟨G.out.2.1.1.below C, G.out.2.1.2.below C⟩, G.out.2.2.1.below C, G.out.2.2.2.below C⟩
 clear C G p3 q3
 have p4 : Z.cell? ⟨n5, 4, none⟩ = some (n4) := M.out.2.2.1.cell 4
 have q4 : Z.cell? ⟨n6, 4, none⟩ = some (v5) := M.out.2.2.2.cell 4
 go_wp2_with fail
 refine (rstrs_yes P.nh (G1.out.at M.out.1).nh (G2.out.at M.out.1).nh).mono ?_
 rintro e U ⟨rfl, C⟩
 have a5 : Hid (bL w U ∧ (Blk U z 30 (pgC P v6 v7 v8 (.slice a0 j g) v0 n1 n2 n3 n4 []) ∧ Blk U (z + 1) 30 (pgC P v9 u0 u1 (.slice a1 j n0) v1 v2 v3 v4 v5 [])) ∧ Blk U n5 28 [v0, n1, n2, n3, n4] ∧ Blk U n6 28 [v1, v2, v3, v4, v5]) := O ⟨M.out.1.trans (C.mono M.out.1.size), ⟨M.out.2.1.1.below C, M.out.2.1.2.below C⟩, M.out.2.2.1.below C, M.out.2.2.2.below C⟩
 clear C M p4 q4
 go_wp2_with fail
 refine a3.out _ _ ?_
 clear a3 KK
 have R : Hid (bL w U ∧ Blk U z 30 (pgC P v6 v7 v8 (.slice a0 j g) v0 n1 n2 n3 n4 []) ∧ Blk U (z + 1) 30 (pgC P v9 u0 u1 (.slice a1 j n0) v1 v2 v3 v4 v5 [])) := O ⟨a5.out.1, a5.out.2.1.1, a5.out.2.1.2⟩
 clear a5
 refine wk fun KK a3 => ?_
 go_wp2_with fail
 go_loopg [7] j (fun x iv wr => ∃ i : Nat, i ≤ j ∧ x = j - i ∧ iv = I i ∧ Hid (bL w wr ∧ Blk wr z 30 (pgC P v6 v7 v8 (.slice a0 j g) v0 n1 n2 n3 n4 []) ∧ Blk wr (z + 1) 30 (pgC P v9 u0 u1 (.slice a1 j n0) v1 v2 v3 v4 v5 [])))
 case atStart => exact ⟨0, Nat.zero_le _, rfl, rfl, R⟩
 case round =>
  clear R
  obtain ⟨i, hi, rfl, rfl, R⟩ := hrel
  have p5 : wr.cell? ⟨z, 5, none⟩ = some (.slice a0 j g) := R.out.2.1.cell 5
  by_cases d3 : i < j
  ·have e4 : (i : Int) < (j : Int) := by omega
   have e5 : (0 : Int) ≤ (i : Int) := by omega
   have d8 : Hid (wrap64 ((i : Int) + 1) = ((i + 1 : Nat) : Int)) := O (by
    have h1 := (b8.out trivial).1
    have h2 := (b8.out trivial).2
    have := IntWalk.wrap64_in ((i : Int) + 1) (by omega)
    rw [this]
    omega)
   obtain ⟨x, hx⟩ : ∃ x, P.threads[i]? = some x := ⟨_, List.getElem?_eq_getElem (by rw [HN.out]; exact d3)⟩
   obtain ⟨F, hV⟩ : ∃ F, wr.drew = F := ⟨_, rfl⟩
   have H : Hid (bL w F ∧ Blk F z 30 (pgC P v6 v7 v8 (.slice a0 j g) v0 n1 n2 n3 n4 []) ∧ Blk F (z + 1) 30 (pgC P v9 u0 u1 (.slice a1 j n0) v1 v2 v3 v4 v5 [])) := O (by rw [← hV]; exact ⟨R.out.1.trans (Below.refl _ _).drew, R.out.2.1.drew, R.out.2.2.drew⟩)
   obtain ⟨t1, d1, c9, -, b5⟩ := (G1.out.at H.out.1).threads
   obtain ⟨t2, d2, a9, -, c8⟩ := (G2.out.at H.out.1).threads
   obtain ⟨b1, o1, e0, rfl, -, a4, d6⟩ := b5 i x hx
   obtain ⟨b2, o2, e3, rfl, -, a2, d4⟩ := c8 i x hx
   obtain ⟨x1, y1, rfl, b9, d0⟩ := d6
   obtain ⟨x2, y2, rfl, d9, b4⟩ := d4
   simp only [Value.slice.injEq] at c9 a9
   obtain ⟨rfl, -, -⟩ := c9
   obtain ⟨rfl, -, -⟩ := a9
   obtain ⟨BN, a7⟩ := eX (x.body.length)
   have S : Hid ((F.cell? ⟨b1, o1 + i * 3, none⟩ = some (.string x.name) ∧ F.cell? ⟨b1, o1 + i * 3 + 1, none⟩ = some (I x.locals) ∧ F.cell? ⟨b1, o1 + i * 3 + 2, none⟩ = some (.slice x1 BN y1)) ∧ F.cell? ⟨b2, o2 + i * 3, none⟩ = some (.string x.name) ∧ F.cell? ⟨b2, o2 + i * 3 + 1, none⟩ = some (I x.locals) ∧ F.cell? ⟨b2, o2 + i * 3 + 2, none⟩ = some (.slice x2 BN y2)) := O (by
    rw [← a7]
    exact ⟨⟨World.cellF_cell (a4 0 _ rfl), World.cellF_cell (a4 1 _ rfl), World.cellF_cell (a4 2 _ rfl)⟩, World.cellF_cell (a2 0 _ rfl), World.cellF_cell (a2 1 _ rfl), World.cellF_cell (a2 2 _ rfl)⟩)
   have a6 := sss_all x.body x1 x2 y1 y2 F b9 d0 b4
   rw [a7] at a6
   have b7 := O a6
   obtain ⟨e2, a8⟩ := eX (x.name)
   obtain ⟨lc, b6⟩ : ∃ n : Int, (x.locals : Int) = n := ⟨_, rfl⟩
   rw [a8, b6] at S
   clear b5 c8 a4 a2 b9 d9 d0 b4 a6 hx a7 a8 b6 x
   go_wp2_with fail
   refine wp_region_x [] (fun W' => bL F W') d5 ?_
   rw [hV]
   clear hV R p5
   have A : Hid (bL F F) := O (Below.refl _ _)
   refine tK1 0 ?_
   refine tKf (fun D => D.cell? ⟨z, 5, none⟩ = some (.slice (some ⟨b1, o1, none⟩) j g)) 1 (fun D E => (H.out.2.1.below E).cell 5) ?_
   refine tK2 2 ?_
   refine nm ?_
   refine tK1 4 ?_
   refine tKf _ 5 (fun D E => below_cl E _ _ _ S.out.1.1) ?_
   refine tK1 6 ?_
   refine tKf (fun D => D.cell? ⟨z + 1, 5, none⟩ = some (.slice (some ⟨b2, o2, none⟩) j n0)) 7 (fun D E => (H.out.2.2.below E).cell 5) ?_
   refine nm ?_
   refine tK3 8 ?_
   refine tKf _ 11 (fun D E => below_cl E _ _ _ S.out.2.1) ?_
   refine nm ?_
   refine tK3 12 ?_
   refine tKf (fun D => D.cell? ⟨z, 5, none⟩ = some (.slice (some ⟨b1, o1, none⟩) j g)) 15 (fun D E => (H.out.2.1.below E).cell 5) ?_
   refine nm ?_
   refine tK3 16 ?_
   refine tKf _ 19 (fun D E => below_cl E _ _ _ S.out.1.2.1) ?_
   refine nm ?_
   refine tK1 20 ?_
   refine tKf (fun D => D.cell? ⟨z + 1, 5, none⟩ = some (.slice (some ⟨b2, o2, none⟩) j n0)) 21 (fun D E => (H.out.2.2.below E).cell 5) ?_
   refine tK2 22 ?_
   refine nm ?_
   refine tK1 24 ?_
   refine tKf _ 25 (fun D E => below_cl E _ _ _ S.out.2.2.1) ?_
   refine tK2 26 ?_
   refine nm ?_
   refine tK2 28 ?_
   refine tKf (fun D => D.cell? ⟨z, 5, none⟩ = some (.slice (some ⟨b1, o1, none⟩) j g)) 30 (fun D E => (H.out.2.1.below E).cell 5) ?_
   refine tK1 31 ?_
   refine nm ?_
   refine tK2 32 ?_
   refine tKf _ 34 (fun D E => below_cl E _ _ _ S.out.1.2.2) ?_
   refine tK1 35 ?_
   refine nm ?_
   refine tKf (fun D => D.cell? ⟨z + 1, 5, none⟩ = some (.slice (some ⟨b2, o2, none⟩) j n0)) 36 (fun D E => (H.out.2.2.below E).cell 5) ?_
   refine tK3 37 ?_
   refine nm ?_
   refine tKf _ 40 (fun D E => below_cl E _ _ _ S.out.2.2.2) ?_
   refine nm ?_
   refine wpX_one 41 (by kernel_rfl) rfl (fun d7 hK => ?_)
   rw [if_pos (by rfl)]
   go_simp
   refine b7.out.mono ?_
   rintro e W3 ⟨rfl, C⟩
   have V := O C
   refine hK _ _ (fun _ => V.out) ?_
   clear hK d7 C
   try refine nm ?_
   refine tK2 42 ?_
   refine nm ?_
   refine dn ?_
   have G : Hid (bL w W3 ∧ Blk W3 z 30 (pgC P v6 v7 v8 (.slice (some ⟨b1, o1, none⟩) j g) v0 n1 n2 n3 n4 []) ∧ Blk W3 (z + 1) 30 (pgC P v9 u0 u1 (.slice (some ⟨b2, o2, none⟩) j n0) v1 v2 v3 v4 v5 [])) := O ⟨H.out.1.trans (V.out.mono H.out.1.size), H.out.2.1.below V.out, H.out.2.2.below V.out⟩
   clear A V H b7 S
   go_wp2_with fail
   go_roundg (j - (i + 1))
   case measure => omega
   case rel => exact ⟨i + 1, by omega, rfl, congrArg (Value.int .i64) d8.out, G⟩
  ·obtain rfl : i = j := by omega
   have e1 : ¬ (i : Int) < (i : Int) := by omega
   go_wp2_with fail
   refine a3.out _ _ ?_
   go_wp2_with fail
   go_ret
   exact ⟨rfl, R.out.1⟩
theorem same_yes {Q Q0 : Nat → Prop} {w : World} {l2 l3 : List Value} (P : Pg) (h1 : PgRL Q w P l2) (h2 : PgRL Q0 w P l3) : Calls Tryz.prog 12 #[.agg l2.toArray, .agg l3.toArray] w (Yes w) := by
 obtain ⟨h7, i1, b4, b8, b5⟩ := zero28
 obtain ⟨d3, e6, d6⟩ := under28
 have d0 : Tryz.prog.follows .mixedOrders = true := by kernel_rfl
 obtain ⟨v0, v1, v4, v5, K, n1, n2, n3, n4, d1, g1⟩ := h1
 obtain ⟨a2, a5, a4, i2, N, H, G, J, M, d2, g2⟩ := h2
 obtain ⟨a6, a8, f3, c9, -⟩ := id g1.threads
 obtain ⟨a1, a3, e9, -, -⟩ := id g2.threads
 subst f3 e9
 obtain ⟨E, hN⟩ : ∃ E, P.threads.length = E := ⟨_, rfl⟩
 rw [hN] at d1 d2 g1 g2 c9
 have HN := O hN
 have e3 := O fun _ : True => c9
 have X := O g1
 have G2 := O g2
 have HP := O (And.intro d1 d2)
 clear d1 d2 g1 g2 hN c9
 go_enter Tryz.func12, Tryz.ntmps12
 refine wk fun KK Y => ?_
 go_wp2_with (first
  | ((with_reducible refine at1 2 (.box 30 _) ?_); refine wpList_box_blk rfl (.tmp 0) rfl l2 rfl w.heap.size rfl ?_; intro W1 k1 b1 e2; have K1 := O k1; have B1 := O b1; clear k1 b1)
  | ((with_reducible refine at1 3 (.box 30 _) ?_); refine wpList_box_blk rfl (.tmp 1) rfl l3 rfl (w.heap.size + 1) e2 ?_; intro W2 k2 b2 s2; have K2 := O k2; have B2 := O b2; clear k2 b2)
  | fail)
 refine Y.out _ _ ?_
 clear Y KK
 obtain ⟨z, hz⟩ : ∃ z, w.heap.size = z := ⟨_, rfl⟩
 rw [hz] at K1 K2
 rw [hz]
 have HZ := O hz
 have HQ : Hid (Below w.heap.size w W2 ∧ Blk W2 z 30 (pgC P v0 v1 v4 (.slice a6 E a8) K n1 n2 n3 n4 []) ∧ Blk W2 (z + 1) 30 (pgC P a2 a5 a4 (.slice a1 E a3) N H G J M [])) := O (by
  rw [← HP.out.1, ← HP.out.2]
  have f2 := B1.out.trans (B2.out.mono (by have := B1.out.size; omega))
  exact ⟨f2, K1.out.below B2.out, K2.out⟩)
 clear K1 K2 B1 B2 e2 s2 hz
 refine wk fun KK Y => ?_
 have p0 : W2.cell? ⟨z, 0, none⟩ = some (v0) := HQ.out.2.1.cell 0
 have q0 : W2.cell? ⟨z + 1, 0, none⟩ = some (a2) := HQ.out.2.2.cell 0
 go_wp2_with fail
 refine (rvals_yes P.vars (X.out.at HQ.out.1).vars (G2.out.at HQ.out.1).vars).mono ?_
 rintro e U1 ⟨rfl, g⟩
 have a7 : Hid (Below w.heap.size w U1 ∧ Blk U1 z 30 (pgC P v0 v1 v4 (.slice a6 E a8) K n1 n2 n3 n4 []) ∧ Blk U1 (z + 1) 30 (pgC P a2 a5 a4 (.slice a1 E a3) N H G J M [])) := O ⟨HQ.out.1.trans (g.mono HQ.out.1.size), HQ.out.2.1.below g, HQ.out.2.2.below g⟩
 clear g HQ p0 q0
 have p1 : U1.cell? ⟨z, 1, none⟩ = some (v1) := a7.out.2.1.cell 1
 have q1 : U1.cell? ⟨z + 1, 1, none⟩ = some (a5) := a7.out.2.2.cell 1
 go_wp2_with fail
 refine (rints_yes P.arrays (X.out.at a7.out.1).arrays (G2.out.at a7.out.1).arrays).mono ?_
 rintro e U2 ⟨rfl, g⟩
 have V : Hid (Below w.heap.size w U2 ∧ Blk U2 z 30 (pgC P v0 v1 v4 (.slice a6 E a8) K n1 n2 n3 n4 []) ∧ Blk U2 (z + 1) 30 (pgC P a2 a5 a4 (.slice a1 E a3) N H G J M [])) := O ⟨a7.out.1.trans (g.mono a7.out.1.size), a7.out.2.1.below g, a7.out.2.2.below g⟩
 clear g a7 p1 q1
 have p2 : U2.cell? ⟨z, 2, none⟩ = some (.int .i64 (P.mutexes : Int)) := V.out.2.1.cell 2
 have q2 : U2.cell? ⟨z + 1, 2, none⟩ = some (.int .i64 (P.mutexes : Int)) := V.out.2.2.cell 2
 have p3 : U2.cell? ⟨z, 3, none⟩ = some (.int .i64 (P.conds : Int)) := V.out.2.1.cell 3
 have q3 : U2.cell? ⟨z + 1, 3, none⟩ = some (.int .i64 (P.conds : Int)) := V.out.2.2.cell 3
 have p4 : U2.cell? ⟨z, 4, none⟩ = some (v4) := V.out.2.1.cell 4
 have q4 : U2.cell? ⟨z + 1, 4, none⟩ = some (a4) := V.out.2.2.cell 4
 go_wp2_with fail
 refine (rints_yes P.chans (X.out.at V.out.1).chans (G2.out.at V.out.1).chans).mono ?_
 rintro e U3 ⟨rfl, g⟩
 have a0 : Hid (Below w.heap.size w U3 ∧ Blk U3 z 30 (pgC P v0 v1 v4 (.slice a6 E a8) K n1 n2 n3 n4 []) ∧ Blk U3 (z + 1) 30 (pgC P a2 a5 a4 (.slice a1 E a3) N H G J M [])) := O ⟨V.out.1.trans (g.mono V.out.1.size), V.out.2.1.below g, V.out.2.2.below g⟩
 clear g V p2 p3 p4 q2 q3 q4
 have p5 : U3.cell? ⟨z, 5, none⟩ = some (.slice a6 E a8) := a0.out.2.1.cell 5
 have q5 : U3.cell? ⟨z + 1, 5, none⟩ = some (.slice a1 E a3) := a0.out.2.2.cell 5
 have p6 : U3.cell? ⟨z, 6, none⟩ = some (.int .i64 (P.main : Int)) := a0.out.2.1.cell 6
 have q6 : U3.cell? ⟨z + 1, 6, none⟩ = some (.int .i64 (P.main : Int)) := a0.out.2.2.cell 6
 have p7 : U3.cell? ⟨z, 7, none⟩ = some (.int .i64 (P.stmts : Int)) := a0.out.2.1.cell 7
 have q7 : U3.cell? ⟨z + 1, 7, none⟩ = some (.int .i64 (P.stmts : Int)) := a0.out.2.2.cell 7
 go_wp2_with fail
 refine Y.out _ _ ?_
 clear Y KK p5 p6 p7 q5 q6 q7
 refine wk fun KK Y => ?_
 obtain ⟨F, hV⟩ : ∃ F, U3.drew = F := ⟨_, rfl⟩
 have Z : Hid (Below w.heap.size w F ∧ Blk F z 30 (pgC P v0 v1 v4 (.slice a6 E a8) K n1 n2 n3 n4 []) ∧ Blk F (z + 1) 30 (pgC P a2 a5 a4 (.slice a1 E a3) N H G J M [])) := O (by rw [← hV]; exact ⟨a0.out.1.trans (Below.refl _ _).drew, a0.out.2.1.drew, a0.out.2.2.drew⟩)
 have d9 : Hid ([K, n1, n2, n3, n4].length = 5 ∧ ∀ v ∈ [K, n1, n2, n3, n4], v.oneCell' = true) := O ⟨rfl, fun v hv => by
  simp only [List.mem_cons, List.not_mem_nil, or_false] at hv
  rcases hv with h | h | h | h | h
  ·rw [h]; exact ro_one X.out.nv
  ·rw [h]; exact ro_one X.out.na
  ·rw [h]; exact ro_one X.out.nm
  ·rw [h]; exact ro_one X.out.nc
  ·rw [h]; exact ro_one X.out.nh⟩
 have e4 : Hid ([N, H, G, J, M].length = 5 ∧ ∀ v ∈ [N, H, G, J, M], v.oneCell' = true) := O ⟨rfl, fun v hv => by
  simp only [List.mem_cons, List.not_mem_nil, or_false] at hv
  rcases hv with h | h | h | h | h
  ·rw [h]; exact ro_one G2.out.nv
  ·rw [h]; exact ro_one G2.out.na
  ·rw [h]; exact ro_one G2.out.nm
  ·rw [h]; exact ro_one G2.out.nc
  ·rw [h]; exact ro_one G2.out.nh⟩
 have d7 : Hid (F.rangeAt z 8 [K, n1, n2, n3, n4] ∧ F.rangeAt (z + 1) 8 [N, H, G, J, M]) := O ⟨Blk.range (pre := [v0, v1, I P.mutexes, I P.conds, v4, .slice a6 E a8, I P.main, I P.stmts]) (mid := [K, n1, n2, n3, n4]) (post := []) Z.out.2.1 rfl, Blk.range (pre := [a2, a5, I P.mutexes, I P.conds, a4, .slice a1 E a3, I P.main, I P.stmts]) (mid := [N, H, G, J, M]) (post := []) Z.out.2.2 rfl⟩
 clear a0
 go_wp2_with fail
 refine wp_region_x [] (fun W' => Below F.heap.size F W') d0 ?_
 rw [hV]
 clear hV
 have HS : Hid (Below F.heap.size F F) := O (Below.refl _ _)
 refine tk 0 (some 67) HS ?_
 refine tl 1 68 HS 28 67 z 8 [K, n1, n2, n3, n4] d3 (fun W hS => fun j u hu => below_cl hS _ _ _ (d7.out.1 j u hu)) e6 d6 info28 ?_
 refine tk 2 (some 69) HS ?_
 refine tl 3 70 HS 28 69 (z + 1) 8 [N, H, G, J, M] d3 (fun W hS => fun j u hu => below_cl hS _ _ _ (d7.out.2 j u hu)) e6 d6 info28 ?_
 refine nm ?_
 refine wpX_three [4, 5] (by kernel_rfl) ?_ (by decide)
 intro i hi
 simp only [List.mem_cons, List.not_mem_nil, or_false] at hi
 rcases hi with rfl | rfl
 ·refine ⟨_, rfl, rfl, fun C D => ?_⟩
  obtain ⟨S, f8⟩ : ∃ b, F.heap.size = b := ⟨_, rfl⟩
  refine wp_alloc_blk b4 b8 b5 rfl S f8 ?_
  intro X1 A g h8
  have b9 := O (HS.out.trans (g.mono HS.out.size))
  have g7 := O A
  have e8 : Hid (F.heap.size ≤ S ∧ S < X1.heap.size) := O ⟨by have := HS.out.size; omega, A.lt⟩
  change C (Act.put _ (some 5) _) X1
  refine D _ _ (fun _ => b9.out) ?_
  clear D C A g
  refine nm ?_
  refine oD 5 fun C D => ?_
  obtain ⟨U, f4⟩ : ∃ b, X1.heap.size = b := ⟨_, rfl⟩
  refine wp_alloc_blk b4 b8 b5 rfl U f4 ?_
  intro X2 A g i0
  have e1 := O (b9.out.trans (g.mono b9.out.size))
  have f5 := O A
  have g8 : Hid (F.heap.size ≤ U ∧ U < X2.heap.size) := O ⟨by have := b9.out.size; omega, A.lt⟩
  have f0 := O (g7.out.below g)
  have e0 : Hid (S ≠ U) := O (by have h1 := e8.out.2; omega)
  change C (Act.put _ (some 6) _) X2
  refine D _ _ (fun _ => e1.out) ?_
  clear D C A g
  refine nm ?_
  refine oD 6 fun C D => ?_
  refine wp_store_ch info28 (.tmp 5) (.tmp 68) rfl S [K, n1, n2, n3, n4] _ rfl rfl f0.out rfl d9.out ?_
  intro X3 A R
  have d5 := O (R.below e8.out.1 e1.out)
  have g6 := O A
  have h3 := O (R.blk (by have := e0.out; omega) f5.out)
  change C (Act.put _ none _) X3
  refine D _ _ (fun _ => d5.out) ?_
  clear D C A R
  refine oD 7 fun C D => ?_
  refine wp_store_ch info28 (.tmp 6) (.tmp 70) rfl U [N, H, G, J, M] _ rfl rfl h3.out rfl e4.out ?_
  intro X4 A R
  have a9 := O (R.below g8.out.1 d5.out)
  have g9 := O A
  have h6 := O (R.blk (by have := e0.out; omega) g6.out)
  change C (Act.put _ none _) X4
  refine D _ _ (fun _ => a9.out) ?_
  clear D C A R
  try simp only [Act.put]
  refine dn ?_
  have c8 : Hid (Below w.heap.size w X4 ∧ (Blk X4 z 30 (pgC P v0 v1 v4 (.slice a6 E a8) K n1 n2 n3 n4 []) ∧ Blk X4 (z + 1) 30 (pgC P a2 a5 a4 (.slice a1 E a3) N H G J M [])) ∧ Blk X4 S 28 [K, n1, n2, n3, n4] ∧ Blk X4 U 28 [N, H, G, J, M]) := O ⟨Z.out.1.trans (a9.out.mono Z.out.1.size), ⟨Z.out.2.1.below a9.out, Z.out.2.2.below a9.out⟩, h6.out, g9.out⟩
  go_wp2_with fail
  refine Y.out _ _ ?_
  clear Y KK
  exact same_tail d0 HN e3 X G2 c8
 ·refine ⟨_, rfl, rfl, fun C D => ?_⟩
  obtain ⟨U, h5⟩ : ∃ b, F.heap.size = b := ⟨_, rfl⟩
  refine wp_alloc_blk b4 b8 b5 rfl U h5 ?_
  intro X5 A g h9
  have b7 := O (HS.out.trans (g.mono HS.out.size))
  have f6 := O A
  have d8 : Hid (F.heap.size ≤ U ∧ U < X5.heap.size) := O ⟨by have := HS.out.size; omega, A.lt⟩
  change C (Act.put _ (some 6) _) X5
  refine D _ _ (fun _ => b7.out) ?_
  clear D C A g
  refine nm ?_
  refine oD 4 fun C D => ?_
  obtain ⟨S, f7⟩ : ∃ b, X5.heap.size = b := ⟨_, rfl⟩
  refine wp_alloc_blk b4 b8 b5 rfl S f7 ?_
  intro X6 A g i3
  have e5 := O (b7.out.trans (g.mono b7.out.size))
  have h0 := O A
  have g4 : Hid (F.heap.size ≤ S ∧ S < X6.heap.size) := O ⟨by have := b7.out.size; omega, A.lt⟩
  have f9 := O (f6.out.below g)
  have e7 : Hid (S ≠ U) := O (by have h1 := d8.out.2; omega)
  change C (Act.put _ (some 5) _) X6
  refine D _ _ (fun _ => e5.out) ?_
  clear D C A g
  refine nm ?_
  refine oD 6 fun C D => ?_
  refine wp_store_ch info28 (.tmp 5) (.tmp 68) rfl S [K, n1, n2, n3, n4] _ rfl rfl h0.out rfl d9.out ?_
  intro X7 A R
  have d4 := O (R.below g4.out.1 e5.out)
  have g5 := O A
  have f1 := O (R.blk (by have := e7.out; omega) f9.out)
  change C (Act.put _ none _) X7
  refine D _ _ (fun _ => d4.out) ?_
  clear D C A R
  refine oD 7 fun C D => ?_
  refine wp_store_ch info28 (.tmp 6) (.tmp 70) rfl U [N, H, G, J, M] _ rfl rfl f1.out rfl e4.out ?_
  intro X8 A R
  have b6 := O (R.below d8.out.1 d4.out)
  have h4 := O A
  have g3 := O (R.blk (by have := e7.out; omega) g5.out)
  change C (Act.put _ none _) X8
  refine D _ _ (fun _ => b6.out) ?_
  clear D C A R
  try simp only [Act.put]
  refine dn ?_
  have c8 : Hid (Below w.heap.size w X8 ∧ (Blk X8 z 30 (pgC P v0 v1 v4 (.slice a6 E a8) K n1 n2 n3 n4 []) ∧ Blk X8 (z + 1) 30 (pgC P a2 a5 a4 (.slice a1 E a3) N H G J M [])) ∧ Blk X8 S 28 [K, n1, n2, n3, n4] ∧ Blk X8 U 28 [N, H, G, J, M]) := O ⟨Z.out.1.trans (b6.out.mono Z.out.1.size), ⟨Z.out.2.1.below b6.out, Z.out.2.2.below b6.out⟩, g3.out, h4.out⟩
  go_wp2_with fail
  refine Y.out _ _ ?_
  clear Y KK
  exact same_tail d0 HN e3 X G2 c8
end Go.Proofs.YtgppcdfgdaggjaaGreatDoor
