/- Texts laid together. No condition but what each law says. -/
import Derived.Test.YtgppcdfgdaggjaaGreatDoorQ29
import Derived.Test.YtgppcdfgdaggjaaGreatDoorQ01
import Derived.Test.YtgppcdfgdaggjaaGreatDoorQ26
import Derived.Test.YtgppcdfgdaggjaaGreatDoorQ25
namespace Go.Proofs.YtgppcdfgdaggjaaGreatDoor
open Go.RowKit Go.Maps
def elV (ty : TypeId) (sz : Nat) : El (List Value) := ⟨ty, sz, fun _ _ cs x => cs = x ∧ x.length = sz ∧ ∀ v ∈ x, v.oneCell' = true, fun _ h => h, fun _ h => h, fun h => ⟨h.1 ▸ h.2.1, h.1 ▸ h.2.2⟩, fun h => h⟩
theorem elV_flat (ty : TypeId) (sz : Nat) : Flat (elV ty sz) := fun _ _ _ _ _ _ h => h
def nilV : Value := .slice none 0 0
def tyK (k : Nat) : TypeId × Nat := [(2, 1), (3, 1), (3, 1), (71, 3), (9, 1), (9, 1), (9, 1), (9, 1), (9, 1)].getD k (9, 1)
structure Gs (B : Nat) (w : World) (vs : List Value) (Ls : List (List (List Value))) : Prop where
 gr : ∀ k, k < 9 → Grow (elV (tyK k).1 (tyK k).2) B w (vs.getD k nilV) (Ls.getD k [])
 ap : ∀ i j c, i ≠ j → (vs.getD i nilV).ownBlock = some c → (vs.getD j nilV).ownBlock ≠ some c
 len : vs.length = 9 ∧ Ls.length = 9
theorem getD_set_eq {g : Type} (l : List g) (i : Nat) (u d : g) (h : i < l.length) : (l.set i u).getD i d = u := by
 rw [List.getD_eq_getElem?_getD, List.getElem?_set_self h]
 rfl
theorem getD_set_ne {g : Type} (l : List g) {i j : Nat} (u d : g) (h : i ≠ j) : (l.set i u).getD j d = l.getD j d := by
 rw [List.getD_eq_getElem?_getD, List.getElem?_set_ne h, ← List.getD_eq_getElem?_getD]
section
variable {B : Nat} {w W : World} {vs : List Value} {Ls : List (List (List Value))}
theorem Gs.lt (h : Gs B w vs Ls) {k c : Nat} (g : (vs.getD k nilV).ownBlock = some c) : B ≤ c ∧ c < w.heap.size := by
 by_cases j : k < 9
 ·exact (h.gr k j).own_lt g
 ·rw [List.getD_eq_getElem?_getD, List.getElem?_eq_none (by rw [h.len.1]; omega)] at g
  simp [nilV, Value.ownBlock] at g
theorem Gs.keep (h : Gs B w vs Ls) (g : ∀ k c, (vs.getD k nilV).ownBlock = some c → W.heap[c]? = w.heap[c]?) : Gs B W vs Ls :=
 ⟨fun k A => Grow.flat (elV_flat _ _) (h.gr k A) fun c j => g k c j, h.ap, h.len⟩
theorem Gs.below (h : Gs B w vs Ls) (j : bL w W) : Gs B W vs Ls := h.keep fun _ c g => j.block c (h.lt g).2
theorem Gs.ch (h : Gs B w vs Ls) {b : Nat} (A : Ch b w W) (g : b < B ∨ ∀ k, (vs.getD k nilV).ownBlock ≠ some b) : Gs B W vs Ls := h.keep fun k c j => A.hpc fun e => by
 rcases g with g | g
 ·have := (h.lt j).1
  omega
 ·exact g k (e ▸ j)
theorem Gs.chM (h : Gs B w vs Ls) {b : Nat} (g : ChM b w W) (A : b < B) : Gs B W vs Ls := h.keep fun k c j => g.block c (by have := (h.lt j).1; omega)
theorem Gs.set1 (h : Gs B w vs Ls) {i : Nat} (D : i < 9) {u : Value} {L : List (List Value)} (N : Grow (elV (tyK i).1 (tyK i).2) B W u L) (Q : ∀ c, c < w.heap.size → (vs.getD i nilV).ownBlock ≠ some c → W.heap[c]? = w.heap[c]?) (R : ∀ c, u.ownBlock = some c → (vs.getD i nilV).ownBlock = some c ∨ w.heap.size ≤ c) : Gs B W (vs.set i u) (Ls.set i L) := by
 have J : ∀ j c, i ≠ j → u.ownBlock = some c → (vs.getD j nilV).ownBlock ≠ some c := fun j c S C e => by
  rcases R c C with G | G
  ·exact h.ap i j c S G e
  ·have := (h.lt e).2
   omega
 refine ⟨fun k M => ?_, fun a b c E A g => ?_, by simp [h.len]⟩
 ·by_cases e : i = k
  ·subst e
   rw [getD_set_eq _ _ _ _ (by rw [h.len.1]; exact D), getD_set_eq _ _ _ _ (by rw [h.len.2]; exact D)]
   exact N
  ·rw [getD_set_ne _ _ _ e, getD_set_ne _ _ _ e]
   exact Grow.flat (elV_flat _ _) (h.gr k M) fun c C => Q c (h.lt C).2 fun K => h.ap i k c e K C
 ·by_cases F : i = a
  ·subst F
   rw [getD_set_eq _ _ _ _ (by rw [h.len.1]; exact D)] at A
   rw [getD_set_ne _ _ _ E] at g
   exact J b c E A g
  ·rw [getD_set_ne _ _ _ F] at A
   by_cases H : i = b
   ·subst H
    rw [getD_set_eq _ _ _ _ (by rw [h.len.1]; exact D)] at g
    exact J a c F g A
   ·rw [getD_set_ne _ _ _ H] at g
    exact h.ap a b c E A g
theorem Gs.set2 (h : Gs B w vs Ls) {i j : Nat} (V : i < 9) (Y : j < 9) (a5 : i ≠ j) {v0 v1 : Value} {K N : List (List Value)} (a1 : Grow (elV (tyK i).1 (tyK i).2) B W v0 K) (a4 : Grow (elV (tyK j).1 (tyK j).2) B W v1 N) (hk : ∀ c, c < w.heap.size → (vs.getD i nilV).ownBlock ≠ some c → (vs.getD j nilV).ownBlock ≠ some c → W.heap[c]? = w.heap[c]?)
  (a2 : ∀ c, v0.ownBlock = some c → (vs.getD i nilV).ownBlock = some c ∨ w.heap.size ≤ c) (a3 : ∀ c, v1.ownBlock = some c → (vs.getD j nilV).ownBlock = some c ∨ w.heap.size ≤ c) (U : ∀ c, v0.ownBlock = some c → v1.ownBlock ≠ some c) : Gs B W ((vs.set i v0).set j v1) ((Ls.set i K).set j N) := by
 have M : i < vs.length ∧ j < vs.length ∧ i < Ls.length ∧ j < Ls.length := by rw [h.len.1, h.len.2]; exact ⟨V, Y, V, Y⟩
 have X : ∀ k, ((vs.set i v0).set j v1).getD k nilV = if k = j then v1 else if k = i then v0 else vs.getD k nilV := fun k => by
  by_cases e : k = j
  ·subst e
   rw [if_pos rfl, getD_set_eq _ _ _ _ (by simp; exact M.2.1)]
  ·rw [if_neg e, getD_set_ne _ _ _ (fun g => e g.symm)]
   by_cases g : k = i
   ·subst g
    rw [if_pos rfl, getD_set_eq _ _ _ _ M.1]
   ·rw [if_neg g, getD_set_ne _ _ _ (fun D => g D.symm)]
 have hL : ∀ k, ((Ls.set i K).set j N).getD k [] = if k = j then N else if k = i then K else Ls.getD k [] := fun k => by
  by_cases e : k = j
  ·subst e
   rw [if_pos rfl, getD_set_eq _ _ _ _ (by simp; exact M.2.2.2)]
  ·rw [if_neg e, getD_set_ne _ _ _ (fun g => e g.symm)]
   by_cases g : k = i
   ·subst g
    rw [if_pos rfl, getD_set_eq _ _ _ _ M.2.2.1]
   ·rw [if_neg g, getD_set_ne _ _ _ (fun D => g D.symm)]
 have H : ∀ k c, k ≠ i → (vs.getD k nilV).ownBlock = some c → v0.ownBlock ≠ some c := fun k c e E g => by
  rcases a2 c g with H | H
  ·exact h.ap i k c (fun D => e D.symm) H E
  ·have := (h.lt E).2
   omega
 have Z : ∀ k c, k ≠ j → (vs.getD k nilV).ownBlock = some c → v1.ownBlock ≠ some c := fun k c e E g => by
  rcases a3 c g with H | H
  ·exact h.ap j k c (fun D => e D.symm) H E
  ·have := (h.lt E).2
   omega
 refine ⟨fun k a0 => ?_, fun a b c R C A => ?_, by simp [h.len]⟩
 ·rw [X, hL]
  by_cases e : k = j
  ·subst e
   simpa using a4
  ·by_cases g : k = i
   ·subst g
    simpa [e] using a1
   ·simp only [e, g, if_false]
    exact Grow.flat (elV_flat _ _) (h.gr k a0) fun c E => hk c (h.lt E).2 (fun D => h.ap i k c (fun S => g S.symm) D E) fun D => h.ap j k c (fun S => e S.symm) D E
 ·rw [X] at C A
  by_cases Q : a = j
  ·rw [if_pos Q] at C
   have G : b ≠ j := fun e => R (Q.trans e.symm)
   rw [if_neg G] at A
   by_cases F : b = i
   ·rw [if_pos F] at A
    exact U c A C
   ·rw [if_neg F] at A
    exact Z b c G A C
  ·rw [if_neg Q] at C
   by_cases J : a = i
   ·rw [if_pos J] at C
    by_cases G : b = j
    ·rw [if_pos G] at A
     exact U c C A
    ·rw [if_neg G] at A
     have F : b ≠ i := fun e => R (J.trans e.symm)
     rw [if_neg F] at A
     exact H b c F A C
   ·rw [if_neg J] at C
    by_cases G : b = j
    ·rw [if_pos G] at A
     exact Z a c Q C A
    ·rw [if_neg G] at A
     by_cases F : b = i
     ·rw [if_pos F] at A
      exact H a c J C A
     ·rw [if_neg F] at A
      exact h.ap a b c R C A
end
def cI (x : Int) : List Value := [.int .i64 x]
def cS (s : ByteArray) : List Value := [.string s]
def cT (t : Th) : List Value := [.string t.name, .int .i64 (t.locals : Int), nilV]
def lsP (P : Pg) : List (List (List Value)) := [P.vars.map cI, P.arrays.map cI, P.chans.map cI, P.threads.map cT, P.nv.map cS, P.na.map cS, P.nm.map cS, P.nc.map cS, P.nh.map cS]
def pcC (P : Pg) (vs : List Value) : List Value := [vs.getD 0 nilV, vs.getD 1 nilV, .int .i64 (P.mutexes : Int), .int .i64 (P.conds : Int), vs.getD 2 nilV, vs.getD 3 nilV, .int .i64 (P.main : Int), .int .i64 (P.stmts : Int), vs.getD 4 nilV, vs.getD 5 nilV, vs.getD 6 nilV, vs.getD 7 nilV, vs.getD 8 nilV]
theorem Gs.nil (B : Nat) (w : World) : Gs B w (List.replicate 9 nilV) (lsP zPg) := by
 have h : ∀ k, (List.replicate 9 nilV).getD k nilV = nilV := fun k => by
  rcases k with _ | _ | _ | _ | _ | _ | _ | _ | _ | k <;> rfl
 have A : ∀ k, (lsP zPg).getD k [] = [] := fun k => by
  rcases k with _ | _ | _ | _ | _ | _ | _ | _ | _ | k <;> rfl
 refine ⟨fun k _ => ?_, fun i j c _ g => ?_, rfl, rfl⟩
 ·rw [h, A]
  exact Grow.nil _ _ _
 ·rw [h] at g
  simp [nilV, Value.ownBlock] at g
end Go.Proofs.YtgppcdfgdaggjaaGreatDoor
set_option maxRecDepth 100000
set_option maxHeartbeats 8000000
namespace Go.Proofs.YtgppcdfgdaggjaaGreatDoor
open Go.RowKit Go.Maps
mutual
theorem pst_all {w0 : World} {F g h : Nat} {fc : List Value} (hFg : w0.heap.size ≤ F ∧ w0.heap.size ≤ g) : ∀ (s : St), s.sm → StCp w0 F g h fc s
 | .mk k l c s t x y body els id sl ot lo, hs => by
  unfold St.sm at hs
  exact fun D sc w hF hI hw hS => pst_step k l c s t x y body els id sl ot lo hs.1 hs.2.1 (pblk_step hFg body (psts_all hFg body hs.2.2.1)) (pblk_step hFg els (psts_all hFg els hs.2.2.2)) D sc w hF hI hw hFg hS
theorem psts_all {w0 : World} {F g h : Nat} {fc : List Value} (hFg : w0.heap.size ≤ F ∧ w0.heap.size ≤ g) : ∀ (l : List St), St.sms l → ∀ s ∈ l, StCp w0 F g h fc s
 | [], _, s, hs => by cases hs
 | y :: r, h, s, hs => by
  unfold St.sms at h
  by_cases e : s = y
  ·rw [e]
   exact pst_all hFg y h.1
  ·exact psts_all hFg r h.2 s ((List.mem_cons.1 hs).resolve_left e)
end
theorem pblk_all {w0 : World} {F g h : Nat} {fc : List Value} (j : w0.heap.size ≤ F ∧ w0.heap.size ≤ g) (l : List St) (w : St.sms l) : BlkC w0 F g h fc l := pblk_step j l (psts_all j l w)
theorem elT_of {ty t : TypeId} {n : Nat} (h : (Tryz.prog.info? ty).map (fun i => (i.zero.map (fun z => z.cells.size), i.size, decide (i.bytes ≤ 1024))) = some (some n, n, true)) (E : Tryz.prog.underlying t = some (.slice ty)) (C : 0 < n) (j : n ≤ 1000) : ElT (elV ty n) t := by
 obtain ⟨i, z, D, A, F, g, w⟩ := info_el h
 exact ⟨i, z, E, D, A, F, g, C, j, w⟩
theorem elT23 : ElT (elV 2 1) 23 := elT_of (by kernel_rfl) (by kernel_rfl) (by decide) (by decide)
theorem elT24 : ElT (elV 3 1) 24 := elT_of (by kernel_rfl) (by kernel_rfl) (by decide) (by decide)
theorem elT25 : ElT (elV 71 3) 25 := elT_of (by kernel_rfl) (by kernel_rfl) (by decide) (by decide)
theorem elT26 : ElT (elV 9 1) 26 := elT_of (by kernel_rfl) (by kernel_rfl) (by decide) (by decide)
theorem info23 : (Tryz.prog.info? 23).map (·.size) = some 1 := by kernel_rfl
theorem info24 : (Tryz.prog.info? 24).map (·.size) = some 1 := by kernel_rfl
theorem info25 : (Tryz.prog.info? 25).map (·.size) = some 1 := by kernel_rfl
theorem Fi.pc {w w' : World} {F g h : Nat} {pc l2 : List Value} {D : PF} (H : Fi w F g h pc D) (j : l2.length = 13) (A : Blk w' F 101 (l2 ++ pfT g h D)) (E : w'.heap[g]? = w.heap[g]?) (C : w'.heap[h]? = w.heap[h]?) : Fi w' F g h l2 D := ⟨j, A, H.m.of E, C.trans H.wm, H.fg, H.fh, H.gh⟩
structure KpB (B F g : Nat) (w w' : World) : Prop where
 os : w'.os = w.os
 tape : w'.tape = w.tape
 output : w'.output = w.output
 size : w.heap.size ≤ w'.heap.size
 block : ∀ c, c < B → c ≠ F → c ≠ g → w'.heap[c]? = w.heap[c]?
section
variable {B F g b : Nat} {w w1 w2 : World}
theorem KpB.below (h : KpB B F g w w1) (j : Below B w1 w2) : KpB B F g w w2 := ⟨j.os.trans h.os, j.tape.trans h.tape, j.output.trans h.output, Nat.le_trans h.size j.size, fun c A D C => (j.block c A).trans (h.block c A D C)⟩
theorem KpB.ch (h : KpB B F g w w1) (j : Ch F w1 w2) : KpB B F g w w2 := ⟨j.kp.os.trans h.os, j.kp.tape.trans h.tape, j.kp.output.trans h.output, Nat.le_trans h.size j.kp.size, fun c D A C => (j.hpc A).trans (h.block c D A C)⟩
theorem KpB.chM (h : KpB B F g w w1) (j : ChM g w1 w2) : KpB B F g w w2 := ⟨j.os.trans h.os, j.tape.trans h.tape, j.output.trans h.output, by rw [j.size]; exact h.size, fun c C D A => (j.block c A).trans (h.block c C D A)⟩
theorem KpB.refl (B F g : Nat) (w : World) : KpB B F g w w := ⟨rfl, rfl, rfl, rl, fun _ _ _ _ => rfl⟩
end
def dcCs (d : De) (bv : Value) : List Value := [.int .i64 d.kind, .int .i64 d.line, .int .i64 d.col, .string d.name, .int .i64 d.num, bv]
def DPs (B F g h : Nat) (D : PF) (w : World) (R : Except Flw (Pg × List Nm × Int)) (e : Ending) (w' : World) : Prop := KpB B F g w w' ∧ match R with
 | .error f => e = .panicked [flawN f]
 | .ok (P', L', ce') => e = .returned (.tuple #[]) ∧ ∃ vs', Fi w' F g h (pcC P' vs') { D with L := L', ce := ce' } ∧ Gs B w' vs' (lsP P')
structure Dqp (B F g h : Nat) (w : World) (b : Nat) (d : De) (bv : Value) (P : Pg) (vs : List Value) (D : PF) (W : World) : Prop where
 k : KpB B F g w W
 f : Fi W F g h (pcC P vs) D
 s : Gs B W vs (lsP P)
 d : Blk W b 46 (dcCs d bv)
 lt : F < B ∧ g < B ∧ h < B ∧ B ≤ b ∧ b < W.heap.size
section
variable {B F g h b c : Nat} {w W W' : World} {d : De} {bv : Value} {P : Pg} {vs : List Value} {D D' : PF}
theorem Dqp.below (H : Dqp B F g h w b d bv P vs D W) (j : bL W W') : Dqp B F g h w b d bv P vs D W' := ⟨H.k.below (j.mono (by have := H.lt; omega)), H.f.up j, H.s.below j, H.d.below j, ⟨H.lt.1, H.lt.2.1, H.lt.2.2.1, H.lt.2.2.2.1, Nat.lt_of_lt_of_le H.lt.2.2.2.2 j.size⟩⟩
theorem Dqp.ch (H : Dqp B F g h w b d bv P vs D W) (j : Ch c W W') (E : B ≤ c) (A : c ≠ b) (C : ∀ k, (vs.getD k nilV).ownBlock ≠ some c) : Dqp B F g h w b d bv P vs D W' := ⟨H.k.below (j.below E (Below.refl _ _)), H.f.ch j (by have := H.lt; omega) (by have := H.lt; omega) (by have := H.lt; omega), H.s.ch j (.inr C), j.blk (fun e => A e.symm) H.d, by rw [j.size]; exact H.lt⟩
theorem Dqp.setF (H : Dqp B F g h w b d bv P vs D W) {j : Nat} {v : Value} (G : Blk W' F 101 ((pcC P vs ++ pfT g h D).set (13 + j) v)) (A : Ch F W W') (E : D'.L = D.L) (C : (pfT g h D).set j v = pfT g h D') : Dqp B F g h w b d bv P vs D' W' := ⟨H.k.ch A, H.f.setC G A E C, H.s.ch A (.inl H.lt.1), A.blk (by have := H.lt; omega) H.d, by rw [A.size]; exact H.lt⟩
end
theorem pdec_end {B F g h j n0 i : Nat} {w W : World} {d : De} {bv : Value} {P : Pg} {vs : List Value} {D : PF} {sl : Nat} {v0 v1 v2 v3 v4 : Value} (N : Hid (Dqp B F g h w j d bv P vs D W)) (HX : Hid (Blk W n0 104 [I d.kind, I sl])) (hn : lkN D.L d.name = none) (hk : 0 ≤ d.kind) (hi : i ≤ 1000) {R : Except Flw (Pg × List Nm × Int)} {F0 : PF} (E : D.n = F0.n ∧ D.loc = F0.loc ∧ D.mo = F0.mo)
  (Q : Hid (R = if 64 ≤ i then .error ((d.line, d.col), 134) else .ok (P, D.L ++ [Nm.mk d.name d.kind.toNat sl], D.ce))) {l2 : List Value} (hU : l2.length = 237 := by rfl) :
  Code.wp Tryz.prog (dropS 5 (Tryz.f37.body.getD .skip)) (bodyPost Tryz.prog Tryz.f37 (DPs B F g h F0 w R)) ⟨(Pt F :: I i :: v0 :: v1 :: v2 :: Pt j :: v3 :: v4 :: Pt F :: Pt n0 :: l2).toArray, []⟩ W := by
 revert l2
 apply aN
 iterate 237 intro _
 change Code.wp _ _ _ _ _
 obtain ⟨d4, a6, b5⟩ := under104
 have b4 : Tryz.prog.follows .mixedOrders = true := by kernel_rfl
 have HN := O hn
 have HD := O E
 have a7 := O hk
 clear hn E hk
 have q1 : W.cell? ⟨j, 1, none⟩ = some (.int .i64 d.line) := N.out.d.cell 1
 have q2 : W.cell? ⟨j, 2, none⟩ = some (.int .i64 d.col) := N.out.d.cell 2
 have a4 := pbound_any (i : Int) 0 63 (d.line, d.col) W
 conv in (dropS _ _) => whnf
 refine wk fun KK a1 => ?_
 go_wp2_with fail
 refine a4.mono ?_
 clear a4 q1 q2
 rintro e W2 ⟨V, M⟩
 have S := O (N.below V)
 have a5 := O (HX.below V)
 clear N HX V
 by_cases a0 : 64 ≤ i
 ·rw [if_pos (by omega)] at M
  have C := Q.out
  rw [if_pos a0] at C
  rw [C, M]
  exact ⟨rfl, S.k, rfl⟩
 rw [if_neg (by omega)] at M
 subst M
 have C := Q.out
 rw [if_neg a0] at C
 have a8 := O C
 clear Q C
 go_wp2
 apply a1
 clear a1 KK
 obtain ⟨J, Z⟩ := eX (W2.drew)
 have A : Hid (Dqp B F g h w j d bv P vs D J ∧ Blk J n0 104 [I d.kind, I sl]) := O (by rw [← Z]; exact ⟨S.below (Below.refl _ _).drew, a5.drew⟩)
 clear S a5
 go_wp2
 apply wp_region_x [7] (fun W => Dqp B F g h w j d bv P vs D W ∧ Blk W n0 104 [I d.kind, I sl]) b4
 rw [Z]
 clear Z
 refine tK3 0 ?_
 refine tKf _ 3 (fun Y U => U.1.f.c13) ?_
 refine nm ?_
 refine tK1 4 ?_
 refine tf (fun Y => Y.cell? ⟨j, 3, none⟩ = some (.string d.name)) 5 (some 245) A (fun Y U => U.1.d.cell 3) ?_
 refine tl 6 246 A 104 9 n0 0 [I d.kind, I sl] d4 (fun W hS => hS.2.whole) a6 b5 info104 ?_
 refine nm ?_
 refine oD 7 fun a9 hK => ?_
 obtain ⟨G, a3, a2, K⟩ := put_nm A.1.f.m ⟨d.name, d.kind.toNat, sl⟩ HN
 have b6 : (Instr.mapUpdate 97 (.map (some g)) (.string d.name) (.agg #[I d.kind, I sl])).run Tryz.prog J = .ok () G := by
   have H := a3
   simp only [Nm.ev, Int.toNat_of_nonneg a7.out] at H
   exact H
 have X : Hid (KpB B F g w G ∧ Fi G F g h (pcC P vs) { D with L := D.L ++ [Nm.mk d.name d.kind.toNat sl] } ∧ Gs B G vs (lsP P)) := O ⟨A.1.k.chM K, A.1.f.map K a2, A.1.s.chM K A.1.lt.2.1⟩
 clear a3 a2 K
 go_simp
 apply hK _ _ nofun
 clear hK a9 b6 A
 try simp only [Act.put]
 refine dn ?_
 go_wp2
 go_end0
 rw [a8.out]
 have E := HD.out
 refine ⟨X.1, rfl, vs, ?_, X.2.2⟩
 have H := X.2.1
 rw [E.1, E.2.1, E.2.2] at H
 exact H
end Go.Proofs.YtgppcdfgdaggjaaGreatDoor
set_option maxRecDepth 100000
set_option maxHeartbeats 8000000
namespace Go.Proofs.YtgppcdfgdaggjaaGreatDoor
open Go.RowKit Go.Maps
section
variable {P : Pg} {L : List Nm} {ce : Int} {i : Nat} {d : De}
theorem dcl_some {x : Nm} (h : lkN L d.name = some x) : dcl P L ce i d = .error ((d.line, d.col), 130) := by
 unfold dcl
 simp [h]
theorem dcl_k1 (h : lkN L d.name = none) (g : d.kind = 1) : dcl P L ce i d = if 64 ≤ i then .error ((d.line, d.col), 134) else .ok ({ P with vars := P.vars ++ [d.num], nv := P.nv ++ [d.name] }, L ++ [Nm.mk d.name d.kind.toNat P.vars.length], ce) := by
 unfold dcl
 simp [h, g]
theorem dcl_k2e (h : lkN L d.name = none) (j : d.kind = 2) (g : d.num < 1 ∨ 256 < d.num ∨ 256 < ce + d.num) : dcl P L ce i d = .error ((d.line, d.col), 134) := by
 unfold dcl
 simp [h, j, g]
theorem dcl_k2 (h : lkN L d.name = none) (j : d.kind = 2) (g : ¬ (d.num < 1 ∨ 256 < d.num ∨ 256 < ce + d.num)) : dcl P L ce i d = if 64 ≤ i then .error ((d.line, d.col), 134) else .ok ({ P with arrays := P.arrays ++ [d.num], na := P.na ++ [d.name] }, L ++ [Nm.mk d.name d.kind.toNat P.arrays.length], ce + d.num) := by
 unfold dcl
 simp only [h, j, g]
 rfl
theorem dcl_k3 (h : lkN L d.name = none) (g : d.kind = 3) : dcl P L ce i d = if 64 ≤ i then .error ((d.line, d.col), 134) else .ok ({ P with mutexes := P.mutexes + 1, nm := P.nm ++ [d.name] }, L ++ [Nm.mk d.name d.kind.toNat P.mutexes], ce) := by
 unfold dcl
 simp [h, g]
theorem dcl_k4 (h : lkN L d.name = none) (g : d.kind = 4) : dcl P L ce i d = if 64 ≤ i then .error ((d.line, d.col), 134) else .ok ({ P with conds := P.conds + 1, nc := P.nc ++ [d.name] }, L ++ [Nm.mk d.name d.kind.toNat P.conds], ce) := by
 unfold dcl
 simp [h, g]
theorem dcl_k5e (h : lkN L d.name = none) (j : d.kind = 5) (g : d.num < 1 ∨ 16 < d.num) : dcl P L ce i d = .error ((d.line, d.col), 134) := by
 unfold dcl
 simp [h, j, g]
theorem dcl_k5 (h : lkN L d.name = none) (j : d.kind = 5) (g : ¬ (d.num < 1 ∨ 16 < d.num)) : dcl P L ce i d = if 64 ≤ i then .error ((d.line, d.col), 134) else .ok ({ P with chans := P.chans ++ [d.num], nh := P.nh ++ [d.name] }, L ++ [Nm.mk d.name d.kind.toNat P.chans.length], ce) := by
 unfold dcl
 simp only [h, j, g]
 rfl
theorem dcl_k6 (h : lkN L d.name = none) (g : d.kind = 6) : dcl P L ce i d = if 64 ≤ i then .error ((d.line, d.col), 134) else .ok ({ P with threads := P.threads ++ [Th.mk d.name 0 []] }, L ++ [Nm.mk d.name d.kind.toNat P.threads.length], ce) := by
 unfold dcl
 simp [h, g]
end
theorem len9 {w : Type} {l : List w} (h : l.length = 9) : ∃ a b c d e f g i j, l = [a, b, c, d, e, f, g, i, j] := by
 rcases l with _ | ⟨a, _ | ⟨b, _ | ⟨c, _ | ⟨d, _ | ⟨e, _ | ⟨f, _ | ⟨g, _ | ⟨i, _ | ⟨j, _ | ⟨k, r⟩⟩⟩⟩⟩⟩⟩⟩⟩⟩
 all_goals first | exact ⟨_, _, _, _, _, _, _, _, _, rfl⟩ | simp at h
theorem dcCs_one (d : De) {bv : Value} (h : bv.oneCell' = true) : (dcCs d bv).length = 6 ∧ ∀ v ∈ dcCs d bv, v.oneCell' = true := by
 refine ⟨rfl, fun v g => ?_⟩
 simp only [dcCs, List.mem_cons, List.not_mem_nil, or_false] at g
 rcases g with rfl | rfl | rfl | rfl | rfl | rfl
 all_goals first | rfl | exact h
theorem cI_L (ty : TypeId) (x : Int) (ok : Nat → Prop) (W : World) : (elV ty 1).L ok W (cI x) (cI x) := ⟨rfl, rfl, fun v g => by
 simp only [cI, List.mem_singleton] at g
 subst g
 rfl⟩
theorem cS_L (ty : TypeId) (x : ByteArray) (ok : Nat → Prop) (W : World) : (elV ty 1).L ok W (cS x) (cS x) := ⟨rfl, rfl, fun v g => by
 simp only [cS, List.mem_singleton] at g
 subst g
 rfl⟩
def LnP (P : Pg) (n : Nat) : Prop := (∀ k, ((lsP P).getD k []).length ≤ n) ∧ P.mutexes ≤ n ∧ P.conds ≤ n
def EEL (w : World) (B : Nat) (b c : Nat) (vs : List Value) : Prop := ∀ k x, (vs.getD k nilV).ownBlock = some x → B ≤ x ∧ x ≠ b ∧ x ≠ c ∧ x < w.heap.size
theorem EEL.up {w w' : World} {B b c : Nat} {vs : List Value} (h : EEL w B b c vs) (j : w.heap.size ≤ w'.heap.size) : EEL w' B b c vs := fun k x g => ⟨(h k x g).1, (h k x g).2.1, (h k x g).2.2.1, Nat.lt_of_lt_of_le (h k x g).2.2.2 j⟩
theorem pdec_1 {B F g h j n0 i : Nat} {w W : World} {d : De} {bv : Value} {P : Pg} {v8 v1 v2 v3 v0 v4 v5 v6 v7 : Value} {D : PF} {v9 u0 u1 u2 u3 : Value} (HQ : Hid (Dqp B F g h w j d bv P [v8, v1, v2, v3, v0, v4, v5, v6, v7] D W)) (HX : Hid (Blk W n0 104 [I d.kind, I 0])) (d1 : Hid (EEL W B j n0 [v8, v1, v2, v3, v0, v4, v5, v6, v7])) (b9 : B ≤ n0 ∧ n0 ≠ j) (hn : lkN D.L d.name = none) (hi : i ≤ 1000) (d6 : Hid (LnP P 1000)) (hk : d.kind = 1) (f5 : -2147483648 ≤ d.num ∧ d.num ≤ 2147483647) {l2 : List Value} (hU : l2.length = 237 := by rfl) : Code.wp Tryz.prog (dropS 4 (Tryz.f37.body.getD .skip)) (bodyPost Tryz.prog Tryz.f37 (DPs B F g h D w (dcl P D.L D.ce i d))) ⟨(Pt F :: I i :: v9 :: u0 :: u1 :: Pt j :: u2 :: u3 :: Pt F :: Pt n0 :: l2).toArray, []⟩ W := by
 revert l2
 apply aN
 iterate 237 intro _
 change Code.wp _ _ _ _ _
 have e7 : Tryz.prog.follows .mixedOrders = true := by kernel_rfl
 have q0 : W.cell? ⟨j, 0, none⟩ = some (.int .i64 d.kind) := HQ.out.d.cell 0
 rw [hk] at q0
 have q1 : W.cell? ⟨j, 1, none⟩ = some (.int .i64 d.line) := HQ.out.d.cell 1
 have q2 : W.cell? ⟨j, 2, none⟩ = some (.int .i64 d.col) := HQ.out.d.cell 2
 have q4 : W.cell? ⟨j, 4, none⟩ = some (.int .i64 d.num) := HQ.out.d.cell 4
 have HN := O hn
 have a3 := O b9
 have f1 := O hi
 have a9 := O hk
 clear hn b9 hi
 obtain ⟨R, hR⟩ : ∃ R, dcl P D.L D.ce i d = R := ⟨_, rfl⟩
 rw [hR]
 have HR := O hR
 clear hR
 conv in (dropS _ _) => whnf
 refine wk fun KK f2 => ?_
 have e4 := pbound_any d.num (-2147483648) 2147483647 (d.line, d.col) W
 go_wp2_with fail
 refine e4.mono ?_
 clear e4 q0 q1 q2 q4
 rintro e W2 ⟨hb, he⟩
 have a1 := O (HQ.out.below hb)
 have e5 := O (HX.out.below hb)
 have a7 := O (d1.out.up hb.size)
 clear HQ HX d1 hb
 by_cases d8 : d.num < (-2147483648) ∨ 2147483647 < d.num
 ·rw [if_pos d8] at he
  omega
 rw [if_neg d8] at he
 subst he
 obtain ⟨X, Y, f4, e8⟩ := (a1.out.s.gr 0 (by decide)).form
 obtain rfl : v8 = .slice X ((lsP P).getD 0 []).length Y := f4
 obtain ⟨K, b5⟩ : ∃ n, ((lsP P).getD 0 []).length = n := ⟨_, rfl⟩
 have e6 := O b5
 rw [b5] at a1 a7
 clear e8 b5
 have f3 : W2.cell? ⟨F, 0, none⟩ = some (.slice X K Y) := a1.out.f.f.cell 0
 go_wp2_with (first
  | ((with_reducible refine at0 (.store 3 (.tmp 45) _) ?_); refine wpList_store_one info3 rfl (.tmp 45) (.tmp 44) rfl n0 1 104 (I K) _ rfl rfl rfl rfl e5.out (by simp) ?_; intro W3 k3 c3; have e2 := O (a1.out.ch c3 a3.out.1 a3.out.2 (fun k e => (a7.out k _ e).2.2.1 rfl)); have c8 : Hid (Blk W3 n0 104 [.int .i64 d.kind, .int .i64 (K : Int)]) := O k3; have d4 := O (a7.out.up (Nat.le_of_eq c3.size.symm)); clear k3 c3 a1 e5 a7 f3)
  | fail)
 obtain ⟨V, hV⟩ : ∃ V, W3.drew = V := ⟨_, rfl⟩
 have G : Hid (Dqp B F g h w j d bv P [.slice X K Y, v1, v2, v3, v0, v4, v5, v6, v7] D V) := O (by rw [← hV]; exact e2.out.below (Below.refl _ _).drew)
 have b4 : Hid (Blk V n0 104 [I d.kind, I K]) := O (by rw [← hV]; exact c8.out.drew)
 have d7 : Hid (EEL V B j n0 [.slice X K Y, v1, v2, v3, v0, v4, v5, v6, v7]) := O (by rw [← hV]; exact d4.out)
 clear e2 c8 d4
 obtain ⟨C, hC⟩ : ∃ C, pcC P [.slice X K Y, v1, v2, v3, v0, v4, v5, v6, v7] ++ pfT g h D = C := ⟨_, rfl⟩
 have HC := O hC
 have A : Hid (Blk V F 101 C ∧ Blk V j 46 (dcCs d bv)) := O ⟨by rw [← hC]; exact G.out.f.f, G.out.d⟩
 clear hC
 refine wp_region_x [1, 21, 22, 23, 24, 25] (fun W => Blk W F 101 C ∧ Blk W j 46 (dcCs d bv)) e7 ?_
 rw [hV]
 clear hV
 refine wpX_takeP 1 (some 47) (v := ?_) rfl rfl (by kernel_rfl) (fun _ _ _ h => h) (Or.inl ⟨by rfl, ?_⟩) ?_
 rotate_left
 ·intro H N
  clear N
  go_simp
  first | with_reducible rfl | rw [if_neg (by omega)]
 refine tk3 0 (some 46) A ?_
 refine tk3 2 (some 48) A ?_
 refine tk3 3 (some 49) A ?_
 refine nm ?_
 refine tk3 4 (some 50) A ?_
 refine tf3 (fun H => H.cell? ⟨F, 0, none⟩ = some (.slice X K Y)) 5 (some 51) A (fun H N => (N.1.cell 0).trans (by rw [← HC.out]; rfl)) ?_
 refine tk3 6 (some 52) A ?_
 refine tf3 (fun H => H.cell? ⟨j, 4, none⟩ = some (.int .i64 d.num)) 7 (some 53) A (fun H N => N.2.cell 4) ?_
 refine nm ?_
 refine tk3 10 (some 56) A ?_
 refine tk3 11 (some 57) A ?_
 refine tk3 12 (some 58) A ?_
 refine tk3 13 (some 59) A ?_
 refine nm ?_
 refine tf3 (fun H => H.cell? ⟨F, 8, none⟩ = some v0) 14 (some 60) A (fun H N => (N.1.cell 8).trans (by rw [← HC.out]; rfl)) ?_
 refine tk3 15 (some 61) A ?_
 refine tf3 (fun H => H.cell? ⟨j, 3, none⟩ = some (.string d.name)) 16 (some 62) A (fun H N => N.2.cell 3) ?_
 simp only [Act.put, List.setIfInBounds_toArray, List.set_cons_zero, List.set_cons_succ]
 have b6 := G.out.lt
 have c9 := G.out.s.ap
 have J := d7.out
 refine wpX_app2 (E1 := elV 2 1) (E2 := elV 9 1) (B := B) 8 9 17 18 54 55 63 64 23 26 51 53 60 62 ⟨rfl, rfl, rfl, rfl⟩ ⟨rfl, rfl, rfl, rfl⟩ ⟨rfl, rfl, rfl, rfl⟩ (by kernel_rfl) (by kernel_rfl) (by kernel_rfl) (by kernel_rfl) (by kernel_rfl) (by kernel_rfl) (by decide) ⟨rfl, rfl, rfl, rfl⟩ rfl (by decide) elT23 elT26 (elV_flat _ _) (elV_flat _ _) rfl rfl (G.out.s.gr 0 (by decide)) (G.out.s.gr 4 (by decide)) (fun c U => c9 0 4 c (by decide) U) (I d.num) (.string d.name) (cI d.num) (cS d.name) (cI d.num) (cS d.name) rfl rfl ⟨rfl, rfl⟩ (fun _ _ => cI_L _ _ _ _) (fun _ _ => cS_L _ _ _ _) ⟨Nat.le_trans (d6.out.1 0) (by decide), Nat.le_trans (d6.out.1 4) (by decide)⟩ (by omega) (fun W hk => ⟨A.out.1.of (hk F (by omega) (fun e => by have := (J 0 F e).1; omega) (fun e => by have := (J 4 F e).1; omega)), A.out.2.of (hk j b6.2.2.2.2 (fun e => (J 0 _ e).2.1 rfl) (fun e => (J 4 _ e).2.1 rfl))⟩) ?_
 intro f6 v9 g1 k1 g2 k2 W4 d0 d5 d3 a0 e3 b8 e1
 have b7 := O (G.out.s.set2 (by decide : 0 < 9) (by decide : 4 < 9) (by decide) d0 d5 a0 (fun c U => by cases U; exact e3) (fun c U => by cases U; exact b8) (fun c U e => by cases U; cases e; exact e1 rfl))
 have a8 : ∀ c, c < B → W4.heap[c]? = V.heap[c]? := fun c U => a0 c (by omega) (fun e => by have := (J 0 c e).1; omega) (fun e => by have := (J 4 c e).1; omega)
 have Z : Hid (Blk W4 F 101 C ∧ Blk W4 j 46 (dcCs d bv) ∧ Blk W4 n0 104 [I d.kind, I K]) := O ⟨A.out.1.of (a8 F (by omega)), A.out.2.of (a0 j b6.2.2.2.2 (fun e => (J 0 _ e).2.1 rfl) (fun e => (J 4 _ e).2.1 rfl)), b4.out.of (a0 n0 b4.out.lt (fun e => (J 0 _ e).2.2.1 rfl) (fun e => (J 4 _ e).2.2.1 rfl))⟩
 have a6 := O (And.intro d3 (And.intro (a8 g (by omega)) (a8 h (by omega))))
 obtain ⟨z1, a5⟩ : ∃ z, Value.slice (some ⟨g1, 0, none⟩) (((lsP P).getD 0 []).length + 1) k1 = z := ⟨_, rfl⟩
 obtain ⟨z2, a4⟩ : ∃ z, Value.slice (some ⟨g2, 0, none⟩) (((lsP P).getD 4 []).length + 1) k2 = z := ⟨_, rfl⟩
 have HZ : Hid ((z1.cells = #[z1] ∧ z1.oneCell' = true) ∧ (z2.cells = #[z2] ∧ z2.oneCell' = true)) := O ⟨by rw [← a5]; exact ⟨rfl, rfl⟩, by rw [← a4]; exact ⟨rfl, rfl⟩⟩
 rw [a5, a4] at b7
 rw [a5, a4]
 have d2 := O (And.intro Z.out.1 Z.out.2.1)
 clear d0 d5 d3 a0 e3 b8 e1 a8 b6 c9 J a5 a4
 refine nm ?_
 refine tk3 19 (some 65) d2 ?_
 refine tk3 20 (some 66) d2 ?_
 refine nm ?_
 refine oD 21 fun Q E => ?_
 refine wp_store_one info23 (.tmp 66) (.tmp 55) rfl F 0 101 z1 C rfl rfl HZ.out.1.1 HZ.out.1.2 Z.out.1 (by rw [← HC.out]; simp [pcC, pfT]) ?_
 intro W5 k5 c5
 have M := O (And.intro k5 c5)
 clear k5 c5
 refine E _ _ (fun h => by cases h) ?_
 clear E Q
 refine oD 22 fun Q E => ?_
 go_simp
 refine E _ _ (fun h => by cases h) ?_
 clear E Q
 refine oD 23 fun Q E => ?_
 go_simp
 refine E _ _ (fun h => by cases h) ?_
 clear E Q
 refine oD 24 fun Q E => ?_
 go_simp
 refine E _ _ (fun h => by cases h) ?_
 clear E Q
 refine oD 25 fun Q E => ?_
 refine wp_store_one info26 (.tmp 69) (.tmp 64) rfl F 8 101 z2 (C.set 0 z1) rfl rfl HZ.out.2.1 HZ.out.2.2 M.out.1 (by rw [← HC.out]; simp [pcC, pfT]) ?_
 intro W6 k6 c6
 have S := O (And.intro k6 c6)
 clear k6 c6
 refine E _ _ (fun h => by cases h) ?_
 clear E Q
 try simp only [Act.put]
 refine dn ?_
 have hC := HC.out
 have hF : F < B := G.out.lt.1
 have a2 := G.out.lt
 have d9 := G.out.f.fg
 have e0 := G.out.f.fh
 have e9 : Hid (Dqp B F g h w j d bv { P with vars := P.vars ++ [d.num], nv := P.nv ++ [d.name] } (([.slice X K Y, v1, v2, v3, v0, v4, v5, v6, v7].set 0 z1).set 4 z2) D W6) := O ⟨((G.out.k.below a6.out.1).ch M.out.2).ch S.out.2, G.out.f.pc rfl (by have h1 := S.out.1; rw [← hC] at h1; exact h1) ((S.out.2.hpc (fun e => d9 e.symm)).trans ((M.out.2.hpc (fun e => d9 e.symm)).trans a6.out.2.1)) ((S.out.2.hpc (fun e => e0 e.symm)).trans ((M.out.2.hpc (fun e => e0 e.symm)).trans a6.out.2.2)), by have h1 := (b7.out.ch M.out.2 (.inl hF)).ch S.out.2 (.inl hF); simpa [lsP, cI, cS] using h1, S.out.2.blk (by omega) (M.out.2.blk (by omega) Z.out.2.1), by rw [S.out.2.size, M.out.2.size]; exact ⟨a2.1, a2.2.1, a2.2.2.1, a2.2.2.2.1, Z.out.2.1.lt⟩⟩
 have f0 := O (S.out.2.blk (by have := a3.out; omega) (M.out.2.blk (by have := a3.out; omega) Z.out.2.2))
 clear M S Z b7 a6 G b4 d7 A
 go_wp2_with fail
 refine f2.out _ _ ?_
 exact pdec_end e9 f0 HN.out (by rw [a9.out]; decide) f1.out ⟨rfl, rfl, rfl⟩ (O (HR.out.symm.trans ((dcl_k1 HN.out a9.out).trans (by rw [a9.out, e6.out.symm]; simp [lsP]))))
theorem wpX_store1 {g : Array Oper} {H : Exit → Act → World → Prop} {E : Region.Mode} {D : List Nat} {S : World → Prop} {j : Nat} {F : Array Bool} {a : Act} {w : World} (i : Nat) {o : Oper} (Y : Region.ready E g F = [i]) (K : g[i]? = some o) (U : o.guard = none) (a0 : o.dst = none) (N : D.contains i = true)
  {T : TypeId} (V : (Tryz.prog.info? T).map (·.size) = some 1) (x y : Operand) (Z : o.op = .store T x y) (b k : Nat) (A : TypeId) (v : Value) (C : List Value) (X : a.eval x = .pointer (some ⟨b, k, none⟩)) (hy : a.eval y = v) (hv : v.cells = #[v]) (R : v.oneCell' = true) (J : Blk w b A C) (hk : k < C.length)
  (h : ∀ W, Blk W b A (C.set k v) → Ch b w W → wpX Tryz.prog E g H D S j (F.setIfInBounds i true) a W) : wpX Tryz.prog E g H D S (j + 1) F a w := by
 refine wpX_oneD i Y K U fun a1 hK => ?_
 refine wp_store_one V x y Z b k A v C X hy hv R J hk fun W M Q => hK _ _ (fun G => ?_) ?_
 ·rw [N] at G
  cases G
 ·rw [a0]
  exact h W M Q
end Go.Proofs.YtgppcdfgdaggjaaGreatDoor
set_option maxRecDepth 100000
set_option maxHeartbeats 8000000
namespace Go.Proofs.YtgppcdfgdaggjaaGreatDoor
open Go.RowKit Go.Maps
theorem pdec_2 {B F g h n0 n5 i : Nat} {w W : World} {d : De} {bv : Value} {P : Pg} {v1 v8 v2 v3 v4 v0 v5 v6 v7 : Value} {D : PF} {v9 u0 u1 u2 u3 : Value} (HQ : Hid (Dqp B F g h w n0 d bv P [v1, v8, v2, v3, v4, v0, v5, v6, v7] D W)) (HX : Hid (Blk W n5 104 [I d.kind, I 0])) (d5 : Hid (EEL W B n0 n5 [v1, v8, v2, v3, v4, v0, v5, v6, v7])) (d8 : B ≤ n5 ∧ n5 ≠ n0) (hn : lkN D.L d.name = none) (hi : i ≤ 1000) (e0 : Hid (LnP P 1000)) (hk : d.kind = 2) (g3 : 0 ≤ D.ce ∧ D.ce ≤ 256) {l2 : List Value} (hU : l2.length = 237 := by rfl) : Code.wp Tryz.prog (dropS 4 (Tryz.f37.body.getD .skip)) (bodyPost Tryz.prog Tryz.f37 (DPs B F g h D w (dcl P D.L D.ce i d))) ⟨(Pt F :: I i :: v9 :: u0 :: u1 :: Pt n0 :: u2 :: u3 :: Pt F :: Pt n5 :: l2).toArray, []⟩ W := by
 revert l2
 apply aN
 iterate 237 intro _
 change Code.wp _ _ _ _ _
 have d1 : Tryz.prog.follows .mixedOrders = true := by kernel_rfl
 have q0 : W.cell? ⟨n0, 0, none⟩ = some (.int .i64 d.kind) := HQ.out.d.cell 0
 rw [hk] at q0
 have q1 : W.cell? ⟨n0, 1, none⟩ = some (.int .i64 d.line) := HQ.out.d.cell 1
 have q2 : W.cell? ⟨n0, 2, none⟩ = some (.int .i64 d.col) := HQ.out.d.cell 2
 have q4 : W.cell? ⟨n0, 4, none⟩ = some (.int .i64 d.num) := HQ.out.d.cell 4
 have HN := O hn
 have a6 := O d8
 have f5 := O hi
 have a3 := O hk
 clear hn d8 hi
 obtain ⟨R, hR⟩ : ∃ R, dcl P D.L D.ce i d = R := ⟨_, rfl⟩
 rw [hR]
 have HR := O hR
 clear hR
 conv in (dropS _ _) => whnf
 refine wk fun KK f3 => ?_
 have d7 := pbound_any d.num 1 256 (d.line, d.col) W
 go_wp2_with fail
 refine d7.mono ?_
 clear d7 q0 q1 q2 q4
 rintro e W2 ⟨U, Z⟩
 have c8 := O (HQ.out.below U)
 have e9 := O (HX.out.below U)
 have e1 := O (d5.out.up U.size)
 clear HQ HX d5 U
 by_cases d3 : d.num < 1 ∨ 256 < d.num
 ·rw [if_pos d3] at Z
  have hq : R = .error ((d.line, d.col), 134) := HR.out.symm.trans (dcl_k2e HN.out a3.out (by omega))
  rw [hq, Z]
  exact ⟨rfl, c8.out.k, rfl⟩
 rw [if_neg d3] at Z
 subst Z
 go_wp2_with fail
 obtain ⟨M, K⟩ : ∃ M, W2.drew = M := ⟨_, rfl⟩
 have A : Hid (Dqp B F g h w n0 d bv P [v1, v8, v2, v3, v4, v0, v5, v6, v7] D M) := O (by rw [← K]; exact c8.out.below (Below.refl _ _).drew)
 have Y : Hid (Blk M n5 104 [I d.kind, I 0]) := O (by rw [← K]; exact e9.out.drew)
 have a0 : Hid (EEL M B n0 n5 [v1, v8, v2, v3, v4, v0, v5, v6, v7]) := O (by rw [← K]; exact e1.out)
 clear c8 e9 e1
 refine wp_region_x [9] (fun W => Dqp B F g h w n0 d bv P [v1, v8, v2, v3, v4, v0, v5, v6, v7] D W) d1 ?_
 rw [K]
 clear K
 refine tk 0 (some 77) A ?_
 refine tk 1 (some 78) A ?_
 refine tk 2 (some 79) A ?_
 refine tf _ 3 (some 80) A (fun E J => J.f.c15) ?_
 refine nm ?_
 refine tk 4 (some 81) A ?_
 refine tf (fun E => E.cell? ⟨n0, 4, none⟩ = some (.int .i64 d.num)) 5 (some 82) A (fun E J => J.d.cell 4) ?_
 refine tk 6 (some 83) A ?_
 refine tk 7 (some 84) A ?_
 refine nm ?_
 refine tk 8 (some 85) A ?_
 refine nm ?_
 refine oD 9 fun N G => ?_
 refine wp_store_one info3 (.tmp 85) (.tmp 83) rfl F 15 101 (I (D.ce + d.num)) _ rfl (by first | rfl | (refine congrArg (Value.int IntKind.i64) ?_; rw [IntWalk.i64_in _ (by omega)])) rfl rfl A.out.f.f (by simp [pcC, pfT]) ?_
 intro W3 k3 c3
 have a8 := O (A.out.setF (j := 2) (D' := { D with ce := D.ce + d.num }) k3 c3 rfl rfl)
 have a7 := O (c3.blk (by have := a6.out; have := A.out.lt; omega) Y.out)
 have a4 := O (a0.out.up (Nat.le_of_eq c3.size.symm))
 refine G _ _ (fun h => by cases h) ?_
 clear G N k3 c3 A Y a0
 try simp only [Act.put]
 refine dn ?_
 go_wp2_with fail
 obtain ⟨V2, K⟩ : ∃ M, W3.drew = M := ⟨_, rfl⟩
 have A : Hid (Dqp B F g h w n0 d bv P [v1, v8, v2, v3, v4, v0, v5, v6, v7] { D with ce := D.ce + d.num } V2) := O (by rw [← K]; exact a8.out.below (Below.refl _ _).drew)
 have Y : Hid (Blk V2 n5 104 [I d.kind, I 0]) := O (by rw [← K]; exact a7.out.drew)
 have a0 : Hid (EEL V2 B n0 n5 [v1, v8, v2, v3, v4, v0, v5, v6, v7]) := O (by rw [← K]; exact a4.out)
 clear a8 a7 a4
 refine wp_region_x [] (fun W => Dqp B F g h w n0 d bv P [v1, v8, v2, v3, v4, v0, v5, v6, v7] { D with ce := D.ce + d.num } W) d1 ?_
 rw [K]
 clear K
 refine tk 0 (some 86) A ?_
 refine tk 1 (some 87) A ?_
 refine tk 2 (some 88) A ?_
 refine tf _ 3 (some 89) A (fun E J => J.f.c15) ?_
 refine nm ?_
 refine tk 4 (some 90) A ?_
 refine tf (fun E => E.cell? ⟨n0, 1, none⟩ = some (.int .i64 d.line) ∧ E.cell? ⟨n0, 2, none⟩ = some (.int .i64 d.col)) 5 (some 91) A (fun E J => ⟨J.d.cell 1, J.d.cell 2⟩) ?_
 refine nm ?_
 refine oD 6 fun N G => ?_
 go_simp
 refine (pbound_any (D.ce + d.num) 1 256 (d.line, d.col) V2).mono ?_
 rintro e W4 ⟨U, Z⟩
 have a1 := O (A.out.below U)
 have d9 := O (Y.out.below U)
 have b6 := O (a0.out.up U.size)
 clear A Y a0 U
 by_cases f0 : D.ce + d.num < 1 ∨ 256 < D.ce + d.num
 ·rw [if_pos f0] at Z
  have hq : R = .error ((d.line, d.col), 134) := HR.out.symm.trans (dcl_k2e HN.out a3.out (by omega))
  rw [hq, Z]
  exact ⟨rfl, a1.out.k, rfl⟩
 rw [if_neg f0] at Z
 subst Z
 refine G _ _ (fun _ => a1.out) ?_
 clear G N
 try simp only [Act.put]
 refine dn ?_
 obtain ⟨la, lk, f2, f8⟩ := (a1.out.s.gr 1 (by decide)).form
 obtain rfl : v8 = .slice la ((lsP P).getD 1 []).length lk := f2
 obtain ⟨S, d0⟩ : ∃ n, ((lsP P).getD 1 []).length = n := ⟨_, rfl⟩
 have f7 := O d0
 rw [d0] at a1 b6
 clear f8 d0
 have f6 : W4.cell? ⟨F, 1, none⟩ = some (.slice la S lk) := a1.out.f.f.cell 1
 go_wp2_with (first
  | ((with_reducible refine at0 (.store 3 (.tmp 98) _) ?_); refine wpList_store_one info3 rfl (.tmp 98) (.tmp 97) rfl n5 1 104 (I S) _ rfl rfl rfl rfl d9.out (by simp) ?_; intro W3 k3 c3; have a8 := O (a1.out.ch c3 a6.out.1 a6.out.2 (fun k e => (b6.out k _ e).2.2.1 rfl)); have a7 : Hid (Blk W3 n5 104 [.int .i64 d.kind, .int .i64 (S : Int)]) := O k3; have a4 := O (b6.out.up (Nat.le_of_eq c3.size.symm)); clear k3 c3 a1 d9 b6 f6)
  | fail)
 obtain ⟨M, K⟩ : ∃ M, W3.drew = M := ⟨_, rfl⟩
 have A : Hid (Dqp B F g h w n0 d bv P [v1, .slice la S lk, v2, v3, v4, v0, v5, v6, v7] { D with ce := D.ce + d.num } M) := O (by rw [← K]; exact a8.out.below (Below.refl _ _).drew)
 have Y : Hid (Blk M n5 104 [I d.kind, I S]) := O (by rw [← K]; exact a7.out.drew)
 have a0 : Hid (EEL M B n0 n5 [v1, .slice la S lk, v2, v3, v4, v0, v5, v6, v7]) := O (by rw [← K]; exact a4.out)
 clear a8 a7 a4
 obtain ⟨C, hC⟩ : ∃ C, pcC P [v1, .slice la S lk, v2, v3, v4, v0, v5, v6, v7] ++ pfT g h { D with ce := D.ce + d.num } = C := ⟨_, rfl⟩
 have HC := O hC
 have H : Hid (Blk M F 101 C ∧ Blk M n0 46 (dcCs d bv)) := O ⟨by rw [← hC]; exact A.out.f.f, A.out.d⟩
 clear hC
 refine wp_region_x [1, 21, 22, 23, 24, 25] (fun W => Blk W F 101 C ∧ Blk W n0 46 (dcCs d bv)) d1 ?_
 rw [K]
 clear K
 refine wpX_takeP 1 (some 100) (v := ?_) rfl rfl (by kernel_rfl) (fun _ _ _ h => h) (Or.inl ⟨by rfl, ?_⟩) ?_
 rotate_left
 ·intro E J
  clear J
  go_simp
  first | with_reducible rfl | rw [if_neg (by omega)]
 refine tk3 0 (some 99) H ?_
 refine tk3 2 (some 101) H ?_
 refine tk3 3 (some 102) H ?_
 refine nm ?_
 refine tk3 4 (some 103) H ?_
 refine tf3 (fun E => E.cell? ⟨F, 1, none⟩ = some (.slice la S lk)) 5 (some 104) H (fun E J => (J.1.cell 1).trans (by rw [← HC.out]; rfl)) ?_
 refine tk3 6 (some 105) H ?_
 refine tf3 (fun E => E.cell? ⟨n0, 4, none⟩ = some (.int .i64 d.num)) 7 (some 106) H (fun E J => J.2.cell 4) ?_
 refine nm ?_
 refine tk3 10 (some 109) H ?_
 refine tk3 11 (some 110) H ?_
 refine tk3 12 (some 111) H ?_
 refine tk3 13 (some 112) H ?_
 refine nm ?_
 refine tf3 (fun E => E.cell? ⟨F, 9, none⟩ = some v0) 14 (some 113) H (fun E J => (J.1.cell 9).trans (by rw [← HC.out]; rfl)) ?_
 refine tk3 15 (some 114) H ?_
 refine tf3 (fun E => E.cell? ⟨n0, 3, none⟩ = some (.string d.name)) 16 (some 115) H (fun E J => J.2.cell 3) ?_
 simp only [Act.put, List.setIfInBounds_toArray, List.set_cons_zero, List.set_cons_succ]
 have c9 := A.out.lt
 have d2 := A.out.s.ap
 have Q := a0.out
 refine wpX_app2 (E1 := elV 3 1) (E2 := elV 9 1) (B := B) 8 9 17 18 107 108 116 117 24 26 104 106 113 115 ⟨rfl, rfl, rfl, rfl⟩ ⟨rfl, rfl, rfl, rfl⟩ ⟨rfl, rfl, rfl, rfl⟩ (by kernel_rfl) (by kernel_rfl) (by kernel_rfl) (by kernel_rfl) (by kernel_rfl) (by kernel_rfl) (by decide) ⟨rfl, rfl, rfl, rfl⟩ rfl (by decide) elT24 elT26 (elV_flat _ _) (elV_flat _ _) rfl rfl (A.out.s.gr 1 (by decide)) (A.out.s.gr 5 (by decide)) (fun c hc => d2 1 5 c (by decide) hc) (I d.num) (.string d.name) (cI d.num) (cS d.name) (cI d.num) (cS d.name) rfl rfl ⟨rfl, rfl⟩ (fun _ _ => cI_L _ _ _ _) (fun _ _ => cS_L _ _ _ _) ⟨Nat.le_trans (e0.out.1 1) (by decide), Nat.le_trans (e0.out.1 5) (by decide)⟩ (by omega) (fun W hk => ⟨H.out.1.of (hk F (by omega) (fun e => by have := (Q 1 F e).1; omega) (fun e => by have := (Q 5 F e).1; omega)), H.out.2.of (hk n0 c9.2.2.2.2 (fun e => (Q 1 _ e).2.1 rfl) (fun e => (Q 5 _ e).2.1 rfl))⟩) ?_
 intro f9 v9 g1 k1 g2 k2 W4 e6 d6 e3 a5 d4 e8 e5
 have b9 := O (A.out.s.set2 (by decide : 1 < 9) (by decide : 5 < 9) (by decide) e6 d6 a5 (fun c hc => by cases hc; exact d4) (fun c hc => by cases hc; exact e8) (fun c hc e => by cases hc; cases e; exact e5 rfl))
 have b8 : ∀ c, c < B → W4.heap[c]? = M.heap[c]? := fun c hc => a5 c (by omega) (fun e => by have := (Q 1 c e).1; omega) (fun e => by have := (Q 5 c e).1; omega)
 have a2 : Hid (Blk W4 F 101 C ∧ Blk W4 n0 46 (dcCs d bv) ∧ Blk W4 n5 104 [I d.kind, I S]) := O ⟨H.out.1.of (b8 F (by omega)), H.out.2.of (a5 n0 c9.2.2.2.2 (fun e => (Q 1 _ e).2.1 rfl) (fun e => (Q 5 _ e).2.1 rfl)), Y.out.of (a5 n5 Y.out.lt (fun e => (Q 1 _ e).2.2.1 rfl) (fun e => (Q 5 _ e).2.2.1 rfl))⟩
 have b4 := O (And.intro e3 (And.intro (b8 g (by omega)) (b8 h (by omega))))
 obtain ⟨z1, a9⟩ : ∃ z, Value.slice (some ⟨g1, 0, none⟩) (((lsP P).getD 1 []).length + 1) k1 = z := ⟨_, rfl⟩
 obtain ⟨z2, b5⟩ : ∃ z, Value.slice (some ⟨g2, 0, none⟩) (((lsP P).getD 5 []).length + 1) k2 = z := ⟨_, rfl⟩
 have HZ : Hid ((z1.cells = #[z1] ∧ z1.oneCell' = true) ∧ (z2.cells = #[z2] ∧ z2.oneCell' = true)) := O ⟨by rw [← a9]; exact ⟨rfl, rfl⟩, by rw [← b5]; exact ⟨rfl, rfl⟩⟩
 rw [a9, b5] at b9
 rw [a9, b5]
 have e2 := O (And.intro a2.out.1 a2.out.2.1)
 clear e6 d6 e3 a5 d4 e8 e5 b8 c9 d2 Q a9 b5
 refine nm ?_
 refine tk3 19 (some 118) e2 ?_
 refine tk3 20 (some 119) e2 ?_
 refine nm ?_
 refine oD 21 fun N G => ?_
 refine wp_store_one info24 (.tmp 119) (.tmp 108) rfl F 1 101 z1 C rfl rfl HZ.out.1.1 HZ.out.1.2 a2.out.1 (by rw [← HC.out]; simp [pcC, pfT]) ?_
 intro W5 k5 c5
 have V := O (And.intro k5 c5)
 clear k5 c5
 refine G _ _ (fun h => by cases h) ?_
 clear G N
 refine oD 22 fun N G => ?_
 go_simp
 refine G _ _ (fun h => by cases h) ?_
 clear G N
 refine oD 23 fun N G => ?_
 go_simp
 refine G _ _ (fun h => by cases h) ?_
 clear G N
 refine oD 24 fun N G => ?_
 go_simp
 refine G _ _ (fun h => by cases h) ?_
 clear G N
 refine oD 25 fun N G => ?_
 refine wp_store_one info26 (.tmp 122) (.tmp 117) rfl F 9 101 z2 (C.set 1 z1) rfl rfl HZ.out.2.1 HZ.out.2.2 V.out.1 (by rw [← HC.out]; simp [pcC, pfT]) ?_
 intro W6 k6 c6
 have X := O (And.intro k6 c6)
 clear k6 c6
 refine G _ _ (fun h => by cases h) ?_
 clear G N
 try simp only [Act.put]
 refine dn ?_
 have hC := HC.out
 have hF : F < B := A.out.lt.1
 have b7 := A.out.lt
 have e4 := A.out.f.fg
 have e7 := A.out.f.fh
 have f4 : Hid (Dqp B F g h w n0 d bv { P with arrays := P.arrays ++ [d.num], na := P.na ++ [d.name] } (([v1, .slice la S lk, v2, v3, v4, v0, v5, v6, v7].set 1 z1).set 5 z2) { D with ce := D.ce + d.num } W6) := O ⟨((A.out.k.below b4.out.1).ch V.out.2).ch X.out.2, A.out.f.pc rfl (by have h1 := X.out.1; rw [← hC] at h1; exact h1) ((X.out.2.hpc (fun e => e4 e.symm)).trans ((V.out.2.hpc (fun e => e4 e.symm)).trans b4.out.2.1)) ((X.out.2.hpc (fun e => e7 e.symm)).trans ((V.out.2.hpc (fun e => e7 e.symm)).trans b4.out.2.2)), by have h1 := (b9.out.ch V.out.2 (.inl hF)).ch X.out.2 (.inl hF); simpa [lsP, cI, cS] using h1, X.out.2.blk (by omega) (V.out.2.blk (by omega) a2.out.2.1), by rw [X.out.2.size, V.out.2.size]; exact ⟨b7.1, b7.2.1, b7.2.2.1, b7.2.2.2.1, a2.out.2.1.lt⟩⟩
 have f1 := O (X.out.2.blk (by have := a6.out; omega) (V.out.2.blk (by have := a6.out; omega) a2.out.2.2))
 clear V X a2 b9 b4 A Y a0 H
 go_wp2_with fail
 refine f3.out _ _ ?_
 exact pdec_end f4 f1 HN.out (by rw [a3.out]; decide) f5.out ⟨rfl, rfl, rfl⟩ (O (HR.out.symm.trans ((dcl_k2 HN.out a3.out (by omega)).trans (by rw [a3.out, f7.out.symm]; simp [lsP]))))
end Go.Proofs.YtgppcdfgdaggjaaGreatDoor
set_option maxRecDepth 100000
set_option maxHeartbeats 8000000
namespace Go.Proofs.YtgppcdfgdaggjaaGreatDoor
open Go.RowKit Go.Maps
theorem pdec_3 {B F g h j n0 i : Nat} {w W : World} {d : De} {bv : Value} {P : Pg} {v1 v2 v3 v4 v5 v6 v0 v7 v8 : Value} {D : PF} {v9 u0 u1 u2 u3 : Value} (Q : Hid (Dqp B F g h w j d bv P [v1, v2, v3, v4, v5, v6, v0, v7, v8] D W)) (HX : Hid (Blk W n0 104 [I d.kind, I 0])) (a8 : Hid (EEL W B j n0 [v1, v2, v3, v4, v5, v6, v0, v7, v8])) (b9 : B ≤ n0 ∧ n0 ≠ j) (hn : lkN D.L d.name = none) (hi : i ≤ 1000) (d5 : Hid (LnP P 1000)) (hk : d.kind = 3) {l2 : List Value} (hU : l2.length = 237 := by rfl) : Code.wp Tryz.prog (dropS 4 (Tryz.f37.body.getD .skip)) (bodyPost Tryz.prog Tryz.f37 (DPs B F g h D w (dcl P D.L D.ce i d))) ⟨(Pt F :: I i :: v9 :: u0 :: u1 :: Pt j :: u2 :: u3 :: Pt F :: Pt n0 :: l2).toArray, []⟩ W := by
 revert l2
 apply aN
 iterate 237 intro _
 change Code.wp _ _ _ _ _
 have e3 : Tryz.prog.follows .mixedOrders = true := by kernel_rfl
 have q0 : W.cell? ⟨j, 0, none⟩ = some (.int .i64 d.kind) := Q.out.d.cell 0
 rw [hk] at q0
 have q1 : W.cell? ⟨j, 1, none⟩ = some (.int .i64 d.line) := Q.out.d.cell 1
 have q2 : W.cell? ⟨j, 2, none⟩ = some (.int .i64 d.col) := Q.out.d.cell 2
 have q4 : W.cell? ⟨j, 4, none⟩ = some (.int .i64 d.num) := Q.out.d.cell 4
 have HN := O hn
 have a3 := O b9
 have e8 := O hi
 have a9 := O hk
 clear hn b9 hi
 obtain ⟨R, hR⟩ : ∃ R, dcl P D.L D.ce i d = R := ⟨_, rfl⟩
 rw [hR]
 have HR := O hR
 clear hR
 conv in (dropS _ _) => whnf
 refine wk fun KK e9 => ?_
 have f2 := O fun _ : True => (show (P.mutexes : Int) + 1 ≤ 100000 by have := d5.out.2; omega)
 have f0 : W.cell? ⟨F, 2, none⟩ = some (.int .i64 (P.mutexes : Int)) := Q.out.f.f.cell 2
 go_wp2_with (first
  | ((with_reducible refine at0 (.store 3 (.tmp 129) _) ?_); refine wpList_store_one info3 rfl (.tmp 129) (.tmp 128) rfl n0 1 104 (I P.mutexes) _ rfl rfl rfl rfl HX.out (by simp) ?_; intro W3 k3 c3; have d9 := O (Q.out.ch c3 a3.out.1 a3.out.2 (fun k e => (a8.out k _ e).2.2.1 rfl)); have c8 : Hid (Blk W3 n0 104 [.int .i64 d.kind, .int .i64 (P.mutexes : Int)]) := O k3; have d1 := O (a8.out.up (Nat.le_of_eq c3.size.symm)); clear k3 c3 Q HX a8 f0 q0 q1 q2 q4)
  | fail)
 obtain ⟨J, hV⟩ : ∃ J, W3.drew = J := ⟨_, rfl⟩
 have H : Hid (Dqp B F g h w j d bv P [v1, v2, v3, v4, v5, v6, v0, v7, v8] D J) := O (by rw [← hV]; exact d9.out.below (Below.refl _ _).drew)
 have b4 : Hid (Blk J n0 104 [I d.kind, I P.mutexes]) := O (by rw [← hV]; exact c8.out.drew)
 have d6 : Hid (EEL J B j n0 [v1, v2, v3, v4, v5, v6, v0, v7, v8]) := O (by rw [← hV]; exact d1.out)
 clear d9 c8 d1
 obtain ⟨C, hC⟩ : ∃ C, pcC P [v1, v2, v3, v4, v5, v6, v0, v7, v8] ++ pfT g h D = C := ⟨_, rfl⟩
 have HC := O hC
 have A : Hid (Blk J F 101 C ∧ Blk J j 46 (dcCs d bv)) := O ⟨by rw [← hC]; exact H.out.f.f, H.out.d⟩
 clear hC
 obtain ⟨i9, z9, d3, d2, e2, b8, e6⟩ := info_el infoStr
 have d4 : Tryz.prog.underlying 26 = some (.slice 9) := by kernel_rfl
 refine wp_region_x [1, 18, 19, 20, 21, 22] (fun W => Blk W F 101 C ∧ Blk W j 46 (dcCs d bv)) e3 ?_
 rw [hV]
 clear hV
 refine wpX_takeP 1 (some 131) (v := ?_) rfl rfl (by kernel_rfl) (fun _ _ _ h => h) (Or.inl ⟨by rfl, ?_⟩) ?_
 rotate_left
 ·intro G E
  clear E
  go_simp
  first | with_reducible rfl | rw [if_neg (by omega)]
 refine tk3 0 (some 130) A ?_
 refine tk3 2 (some 132) A ?_
 refine tk3 3 (some 133) A ?_
 refine nm ?_
 refine tk3 4 (some 134) A ?_
 refine tf3 (fun G => G.cell? ⟨F, 2, none⟩ = some (.int .i64 (P.mutexes : Int))) 5 (some 135) A (fun G E => (E.1.cell 2).trans (by rw [← HC.out]; rfl)) ?_
 refine tk3 6 (some 136) A ?_
 refine tk3 7 (some 137) A ?_
 refine nm ?_
 refine tk3 8 (some 138) A ?_
 refine tk3 9 (some 139) A ?_
 refine tk3 10 (some 140) A ?_
 refine tf3 (fun G => G.cell? ⟨F, 10, none⟩ = some v0) 11 (some 141) A (fun G E => (E.1.cell 10).trans (by rw [← HC.out]; rfl)) ?_
 refine nm ?_
 refine tk3 12 (some 142) A ?_
 refine tf3 (fun G => G.cell? ⟨j, 3, none⟩ = some (.string d.name)) 13 (some 143) A (fun G E => E.2.cell 3) ?_
 refine nm ?_
 refine oD 14 fun a1 Z => ?_
 refine wp_build1 (.tmp 143) rfl d4 d3 d2 e2 b8 (by decide) (by decide) (.string d.name) (cS d.name) rfl rfl rfl ?_
 intro Wb kb bb sb
 have U := O (And.intro kb bb)
 have e4 : Hid (Blk Wb F 101 C ∧ Blk Wb j 46 (dcCs d bv)) := O ⟨A.out.1.below bb, A.out.2.below bb⟩
 clear kb bb sb
 change a1 (Act.put _ (some 144) _) Wb
 refine Z _ _ (fun _ => e4.out) ?_
 clear Z a1
 refine nm ?_
 refine oD 15 fun a1 Z => ?_
 have e1 := H.out.lt
 have a6 := d6.out
 refine wp_append_at (elV 9 1) (.tmp 141) (.tmp 144) 26 rfl i9 z9 d4 d3 d2 e2 b8 (by decide) e6 B Wb v0 _ rfl ((H.out.s.gr 6 (by decide)).below U.out.2) (cS d.name) (cS d.name) (cS_L _ _ _ _) _ 9 U.out.1 rfl (Nat.le_trans (d5.out.1 6) (by decide)) (by have := U.out.2.size; omega) ?_
 intro g1 k1 V c9 d0 b7 e0
 have a0 : ∀ c, c < J.heap.size → v0.ownBlock ≠ some c → V.heap[c]? = J.heap[c]? := fun c X f1 => (b7 c (Nat.lt_of_lt_of_le X U.out.2.size) f1).trans (U.out.2.block c X)
 have b6 := O (H.out.s.set1 (by decide : 6 < 9) c9 a0 (fun c X => by
  cases X
  rcases e0 with N | N
  ·exact .inl N
  ·exact .inr (by rw [N]; exact U.out.2.size)))
 have a7 : ∀ c, c < B → V.heap[c]? = J.heap[c]? := fun c X => a0 c (by omega) (fun e => by have := (a6 6 c e).1; omega)
 have S : Hid (Blk V F 101 C ∧ Blk V j 46 (dcCs d bv) ∧ Blk V n0 104 [I d.kind, I P.mutexes]) := O ⟨A.out.1.of (a7 F (by omega)), A.out.2.of (a0 j e1.2.2.2.2 (fun e => (a6 6 _ e).2.1 rfl)), b4.out.of (a0 n0 b4.out.lt (fun e => (a6 6 _ e).2.2.1 rfl))⟩
 have a5 := O (And.intro ((U.out.2.mono (by omega)).trans d0) (And.intro (a7 g (by omega)) (a7 h (by omega))))
 obtain ⟨Y, a4⟩ : ∃ z, Value.slice (some ⟨g1, 0, none⟩) (((lsP P).getD 6 []).length + 1) k1 = z := ⟨_, rfl⟩
 have HZ : Hid (Y.cells = #[Y] ∧ Y.oneCell' = true) := O (by rw [← a4]; exact ⟨rfl, rfl⟩)
 rw [a4] at b6
 rw [a4]
 have b5 := O (And.intro S.out.1 S.out.2.1)
 change a1 (Act.put _ (some 145) _) V
 refine Z _ _ (fun _ => b5.out) ?_
 clear Z a1 c9 d0 b7 e0 a0 a7 e1 a6 a4
 refine nm ?_
 refine tk3 16 (some 146) b5 ?_
 refine tk3 17 (some 147) b5 ?_
 refine nm ?_
 refine wpX_store1 18 (by kernel_rfl) rfl rfl rfl rfl info3 (.tmp 147) (.tmp 136) rfl F 2 101 (I ((P.mutexes + 1 : Nat) : Int)) C rfl (by refine congrArg (Value.int IntKind.i64) ?_; have := f2.out trivial; first | omega | (rw [IntWalk.i64_in _ (by omega)]; omega)) rfl rfl S.out.1 (by rw [← HC.out]; simp [pcC, pfT]) ?_
 intro W5 k5 c5
 have K := O (And.intro k5 c5)
 clear k5 c5
 refine wpX_takeP 19 (some 148) (v := ?_) rfl rfl (by kernel_rfl) (fun _ _ _ h => h) (Or.inl ⟨by rfl, ?_⟩) ?_
 rotate_left
 ·intro G E
  clear E
  go_simp
  first | with_reducible rfl | rw [if_neg (by omega)]
 refine wpX_takeP 20 (some 149) (v := ?_) rfl rfl (by kernel_rfl) (fun _ _ _ h => h) (Or.inl ⟨by rfl, ?_⟩) ?_
 rotate_left
 ·intro G E
  clear E
  go_simp
  first | with_reducible rfl | rw [if_neg (by omega)]
 refine wpX_takeP 21 (some 150) (v := ?_) rfl rfl (by kernel_rfl) (fun _ _ _ h => h) (Or.inl ⟨by rfl, ?_⟩) ?_
 rotate_left
 ·intro G E
  clear E
  go_simp
  first | with_reducible rfl | rw [if_neg (by omega)]
 refine nm ?_
 refine wpX_store1 22 (by kernel_rfl) rfl rfl rfl rfl info26 (.tmp 150) (.tmp 145) rfl F 10 101 Y (C.set 2 (I ((P.mutexes + 1 : Nat) : Int))) rfl rfl HZ.out.1 HZ.out.2 K.out.1 (by rw [← HC.out]; simp [pcC, pfT]) ?_
 intro W6 k6 c6
 have M := O (And.intro k6 c6)
 clear k6 c6
 try simp only [Act.put]
 refine dn ?_
 have hC := HC.out
 have hF : F < B := H.out.lt.1
 have a2 := H.out.lt
 have d7 := H.out.f.fg
 have d8 := H.out.f.fh
 have e5 : Hid (Dqp B F g h w j d bv { P with mutexes := P.mutexes + 1, nm := P.nm ++ [d.name] } ([v1, v2, v3, v4, v5, v6, v0, v7, v8].set 6 Y) D W6) := O ⟨((H.out.k.below a5.out.1).ch K.out.2).ch M.out.2, H.out.f.pc rfl (by have N := M.out.1; rw [← hC] at N; exact N) ((M.out.2.hpc (fun e => d7 e.symm)).trans ((K.out.2.hpc (fun e => d7 e.symm)).trans a5.out.2.1)) ((M.out.2.hpc (fun e => d8 e.symm)).trans ((K.out.2.hpc (fun e => d8 e.symm)).trans a5.out.2.2)), by have N := (b6.out.ch K.out.2 (.inl hF)).ch M.out.2 (.inl hF); simpa [lsP, cS] using N, M.out.2.blk (by omega) (K.out.2.blk (by omega) S.out.2.1), by rw [M.out.2.size, K.out.2.size]; exact ⟨a2.1, a2.2.1, a2.2.2.1, a2.2.2.2.1, S.out.2.1.lt⟩⟩
 have e7 := O (M.out.2.blk (by have := a3.out; omega) (K.out.2.blk (by have := a3.out; omega) S.out.2.2))
 clear K M S b6 a5 H b4 d6 A
 go_wp2_with fail
 refine e9.out _ _ ?_
 exact pdec_end e5 e7 HN.out (by rw [a9.out]; decide) e8.out ⟨rfl, rfl, rfl⟩ (O (HR.out.symm.trans ((dcl_k3 HN.out a9.out).trans (by rw [a9.out]))))
end Go.Proofs.YtgppcdfgdaggjaaGreatDoor
