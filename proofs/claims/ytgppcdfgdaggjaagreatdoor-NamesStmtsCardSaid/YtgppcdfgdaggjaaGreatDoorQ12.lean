/- Texts laid together. No condition but what each law says. -/
import Derived.Test.YtgppcdfgdaggjaaGreatDoorQ11
namespace Go.Proofs.YtgppcdfgdaggjaaGreatDoor
open Go.RowKit
structure Th where
 name : ByteArray
 locals : Nat
 body : List St
instance : Inhabited Th := ⟨⟨noB, 0, []⟩⟩
structure Pg where
 vars : List Int
 arrays : List Int
 mutexes : Nat
 conds : Nat
 chans : List Int
 threads : List Th
 main : Nat
 stmts : Nat
 nv : List ByteArray
 na : List ByteArray
 nm : List ByteArray
 nc : List ByteArray
 nh : List ByteArray
def zPg : Pg := ⟨[], [], 0, 0, [], [], 0, 0, [], [], [], [], []⟩
structure Nm where
 text : ByteArray
 kind : Nat
 slot : Nat
abbrev Flw := (Int × Int) × Int
def lkN (L : List Nm) (s : ByteArray) : Option Nm := L.find? fun x => decide (x.text = s)
def fnd (L : List Nm) (s : ByteArray) (kind : Nat) (loc : Bool) (p : Int × Int) : Except Flw Nm :=
 match lkN L s with
 | none => .error (p, 131)
 | some x => if x.kind ≠ kind ∧ ¬ (loc = true ∧ x.kind = 0) then .error (p, 132) else .ok x
mutual
def fEx (L : List Nm) (p : Int × Int) : Ex → Except Flw Ex
 | .mk k n s sl lo o args =>
  match (if k = 2 then (fnd L s 1 true p).map fun x => ((x.slot : Int), decide (x.kind = 0)) else if k = 3 then (fnd L s 2 false p).map fun x => ((x.slot : Int), lo) else .ok (sl, lo)) with
  | .error e => .error e
  | .ok (sl', lo') => (match fExs L p args with | .error e => .error e | .ok l => .ok (.mk k n s sl' lo' o l))
def fExs (L : List Nm) (p : Int × Int) : List Ex → Except Flw (List Ex)
 | [] => .ok []
 | x :: r => match fEx L p x with
  | .error e => .error e
  | .ok y => (match fExs L p r with | .error e => .error e | .ok l => .ok (y :: l))
end
def wantN (k : Int) : Option (Nat × Bool) := if k = 2 then some (1, true) else if k = 3 then some (2, false) else if k = 6 ∨ k = 7 then some (3, false) else if k = 8 ∨ k = 9 ∨ k = 10 then some (4, false) else if k = 11 ∨ k = 12 then some (5, false) else if k = 13 then some (6, false) else none
def wantW (k : Int) : Option (Nat × Bool) := if k = 8 then some (3, false) else if k = 12 then some (1, true) else none
def stHead (L : List Nm) (loc : Nat) (p : Int × Int) (k : Int) (s t : ByteArray) (sl ot : Int) (lo : Bool) : Except Flw (Int × Int × Bool) :=
 if k = 1 then (if (lkN L s).isSome then .error (p, 130) else if loc = 32 then .error (p, 134) else .ok ((loc : Int), ot, true))
 else match wantN k with
 | none => .ok (sl, ot, lo)
 | some (q, b) => match fnd L s q b p with
  | .error e => .error e
  | .ok x => match wantW k with
   | none => .ok ((x.slot : Int), ot, if b then decide (x.kind = 0) else lo)
   | some (q2, b2) => match fnd L t q2 b2 p with
    | .error e => .error e
    | .ok y => .ok ((x.slot : Int), (y.slot : Int), if b2 then decide (y.kind = 0) else if b then decide (x.kind = 0) else lo)
mutual
def fSt (L : List Nm) (loc : Nat) (n mo : Nat) : St → Except Flw (St × Nat × Nat)
 | .mk k l c s t x y body els _ sl ot lo =>
  if n = 512 then .error ((l, c), 134) else
  match fEx L (l, c) y with
  | .error e => .error e
  | .ok y' => match fEx L (l, c) x with
   | .error e => .error e
   | .ok x' => match stHead L loc (l, c) k s t sl ot lo with
    | .error e => .error e
    | .ok (sl', ot', lo') => match fSts L loc (n + 1) mo body with
     | .error e => .error e
     | .ok (body', n2, mo2) => match fSts L loc n2 mo2 els with
      | .error e => .error e
      | .ok (els', n3, mo3) => .ok (.mk k l c s t x' y' body' els' (n : Int) sl' ot' lo', n3, mo3)
def fSts (L : List Nm) (loc : Nat) (n mo : Nat) : List St → Except Flw (List St × Nat × Nat)
 | [] => .ok ([], n, mo)
 | s :: r => match fSt L loc n mo s with
  | .error e => .error e
  | .ok (s', n2, mo2) =>
   (match (match s with
     | .mk k _ _ nm _ _ _ _ _ _ _ _ _ => if k = 1 then fSts (L ++ [Nm.mk nm 0 loc]) (loc + 1) n2 (max mo2 (loc + 1)) r else fSts L loc n2 mo2 r) with
   | .error e => .error e
   | .ok (r', n3, mo3) => .ok (s' :: r', n3, mo3))
end
def dcl (P : Pg) (L : List Nm) (cells : Int) (i : Nat) (d : De) : Except Flw (Pg × List Nm × Int) :=
 let p := (d.line, d.col)
 if (lkN L d.name).isSome then .error (p, 130) else
 match (show Except Flw (Pg × Nat × Int) from if d.kind = 1 then .ok ({ P with vars := P.vars ++ [d.num], nv := P.nv ++ [d.name] }, P.vars.length, cells)
  else if d.kind = 2 then (if d.num < 1 ∨ 256 < d.num ∨ 256 < cells + d.num then .error (p, 134) else .ok ({ P with arrays := P.arrays ++ [d.num], na := P.na ++ [d.name] }, P.arrays.length, cells + d.num))
  else if d.kind = 3 then .ok ({ P with mutexes := P.mutexes + 1, nm := P.nm ++ [d.name] }, P.mutexes, cells)
  else if d.kind = 4 then .ok ({ P with conds := P.conds + 1, nc := P.nc ++ [d.name] }, P.conds, cells)
  else if d.kind = 5 then (if d.num < 1 ∨ 16 < d.num then .error (p, 134) else .ok ({ P with chans := P.chans ++ [d.num], nh := P.nh ++ [d.name] }, P.chans.length, cells))
  else .ok ({ P with threads := P.threads ++ [Th.mk d.name 0 []] }, P.threads.length, cells)) with
 | .error e => .error e
 | .ok (P', sl, cells') => if 64 ≤ i then .error (p, 134) else .ok (P', L ++ [Nm.mk d.name d.kind.toNat sl], cells')
def dcls (P : Pg) (L : List Nm) (cells : Int) : Nat → List De → Except Flw (Pg × List Nm)
 | _, [] => .ok (P, L)
 | i, d :: r => match dcl P L cells i d with
  | .error e => .error e
  | .ok (P', L', cells') => dcls P' L' cells' (i + 1) r
def bods (L : List Nm) : Nat → List De → Except Flw (List (List St × Nat) × Nat)
 | n, [] => .ok ([], n)
 | n, d :: r => if d.kind = 6 then (match fSts L 0 n 0 d.body with
   | .error e => .error e
   | .ok (b, n2, mo) => match bods L n2 r with
    | .error e => .error e
    | .ok (l, n3) => .ok ((b, mo) :: l, n3))
  else bods L n r
def putTh : List Th → List (List St × Nat) → List Th
 | t :: r, (b, mo) :: q => ⟨t.name, mo, b⟩ :: putTh r q
 | l, _ => l
def wMain : ByteArray := ⟨#[109, 97, 105, 110]⟩
def findR (l : List De) : Pg × (Int × Int) × Int :=
 match dcls zPg [] 0 0 l with
 | .error e => (zPg, e.1, e.2)
 | .ok (P, L) => match lkN L wMain with
  | none => (zPg, (0, 0), 133)
  | some x => if x.kind ≠ 6 then (zPg, (0, 0), 133) else match bods L 0 l with
   | .error e => (zPg, e.1, e.2)
   | .ok (bs, n) => ({ P with main := x.slot, threads := putTh P.threads bs, stmts := n }, (0, 0), 0)
end Go.Proofs.YtgppcdfgdaggjaaGreatDoor
namespace Go.Proofs.YtgppcdfgdaggjaaGreatDoor
section
variable (T : List Wd)
theorem dep1 (k n : Int) (s : ByteArray) (sl : Int) (lo : Bool) (o : Int) : (Ex.mk k n s sl lo o []).depth = 1 := by simp [Ex.depth, Ex.depths]
theorem dep2 (k n : Int) (s : ByteArray) (sl : Int) (lo : Bool) (o : Int) (x : Ex) : (Ex.mk k n s sl lo o [x]).depth = x.depth + 1 := by simp [Ex.depth, Ex.depths]
theorem dep3 (k n : Int) (s : ByteArray) (sl : Int) (lo : Bool) (o : Int) (x y : Ex) : (Ex.mk k n s sl lo o [x, y]).depth = max x.depth y.depth + 1 := by simp [Ex.depth, Ex.depths]
end
section
variable (T : List Wd)
end
end Go.Proofs.YtgppcdfgdaggjaaGreatDoor
set_option maxRecDepth 100000
set_option maxHeartbeats 8000000
namespace Go.Proofs.YtgppcdfgdaggjaaGreatDoor
open Go.RowKit Go.Maps
def WPost (w : World) (b : Nat) (s : ByteArray) (k : Nat) (kw sg : Value) (kind : Int) (e : Nat) (num err : Int) (x : Ending) (w' : World) : Prop :=
 x = .returned (.tuple #[.agg #[.int .i64 kind, .string (s.extract k e), .int .i64 num, .int .i64 (posAt s k).1, .int .i64 (posAt s k).2], .int .i64 err]) ∧ Rd w' b s e kw sg ∧ Kp w w' b b
abbrev zTok : Obj := .cells #[.int .i64 0, .string ⟨#[]⟩, .int .i64 0, .int .i64 0, .int .i64 0] 142
abbrev pTok (p : Int × Int) : Obj := .cells #[.int .i64 0, .string ⟨#[]⟩, .int .i64 0, .int .i64 p.1, .int .i64 p.2] 142
theorem owns_set {w : World} {g n : Nat} {D : DataW Unit} (h : w.ownsMap Tryz.prog 9 (plainElem Tryz.prog 3) g n D) {r : Nat} (j : g ≠ r) (k : Nat) (u : Value) : (w.setCell ⟨r, k, none⟩ u).ownsMap Tryz.prog 9 (plainElem Tryz.prog 3) g n D := by
 obtain ⟨F, E, A, C⟩ := h
 exact ⟨F, E, (Below.heap_setCell w ⟨r, k, none⟩ u g j).trans A, C⟩
theorem word_let {w : World} {b k gk : Nat} {s : ByteArray} {v0 : Value} (hR : Rd w b s k (.map (some gk)) v0) (hO : w.ownsMap Tryz.prog 9 (plainElem Tryz.prog 3) gk 20 (Lst kwL 20)) (Y : gk ≠ b) (hk : k < s.size) (hs : s.size ≤ 4294967296)
  (hc : isLet (byte s k) = true) :
  Calls Tryz.prog 105 #[Pt b] w (WPost w b s k (.map (some gk)) v0 (if isKw (s.extract k (endOf isAny s k)).data.toList then 3 else 1) (endOf isAny s k) 0 (if isKw (s.extract k (endOf isAny s k)).data.toList then 0 else if 16 < endOf isAny s k - k then 111 else 0)) := by
 have a2 := hR.alloc zTok
 have b0 := a2.c0
 have b1 := a2.c1
 have b9 := endOf_le (f := isAny) (Nat.le_of_lt hk)
 obtain ⟨E, hE⟩ := eX (endOf isAny s k)
 have HE := O hE
 rw [hE] at b9 ⊢
 clear hE
 obtain ⟨T, Z⟩ := eX (s.extract k E)
 have b6 : T.size = E - k := by rw [← Z, ByteArray.size_extract]; omega
 obtain ⟨kd, a1⟩ : ∃ kd : Int, (if isKw (s.extract k E).data.toList then 3 else 1) = kd := ⟨_, rfl⟩
 obtain ⟨er, V⟩ : ∃ er : Int, (if isKw (s.extract k E).data.toList then 0 else if 16 < E - k then 111 else 0) = er := ⟨_, rfl⟩
 rw [a1, V]
 rw [Z] at a1 V
 rw [← b6] at V
 have b8 := O a1
 have b7 := O V
 have HT := O Z
 have f2 := O b6
 clear a1 V Z b6
 have hZ : Tk (w.alloc zTok) w.heap.size 0 ⟨#[]⟩ 0 (0, 0) := World.alloc_heap_new _ _
 have d5 := hZ.alloc (pTok (posAt s k))
 have hP : Tk ((w.alloc zTok).alloc (pTok (posAt s k))) (w.heap.size + 1) 0 ⟨#[]⟩ 0 (posAt s k) := by
  have h : Tk ((w.alloc zTok).alloc (pTok (posAt s k))) (w.alloc zTok).heap.size 0 ⟨#[]⟩ 0 (posAt s k) := World.alloc_heap_new _ _
  rw [World.size_alloc] at h
  exact h
 have X := a2.alloc (pTok (posAt s k))
 have a4 : Kp w ((w.alloc zTok).alloc (pTok (posAt s k))) b b := ((Kp.refl w b b).alloc _).alloc _
 have e3 := owns_keep hO a4 Y Y
 have f4 := hR.lt
 have f3 := hO.lt
 go_in
 go_wp2
 change Code.wp _ _ _ _ ((w.alloc zTok).alloc (pTok (posAt s k)))
 clear a2 hZ hR hO b0 b1
 generalize (w.alloc zTok).alloc (pTok (posAt s k)) = W0 at *
 have b2 := X.c2
 have b3 := X.c3
 have hz : (k : Int) < (s.size : Int) := by omega
 have f1 := byte_at hk
 obtain ⟨c, R⟩ := eX (byte s k)
 rw [R] at f1 hc
 clear R
 go_quiet (fail)
 rename_i nq
 obtain ⟨K, D⟩ := eX (W0.drewN nq)
 have a6 : Tk K w.heap.size 0 ⟨#[]⟩ 0 (0, 0) := D ▸ d5
 have a8 : Tk K (w.heap.size + 1) 0 ⟨#[]⟩ 0 (posAt s k) := D ▸ hP
 have e9 : Rd K b s k (.map (some gk)) v0 := D ▸ X
 have d8 : Kp w K b b := by rw [← D]; exact a4.drewN nq
 have c8 : K.ownsMap Tryz.prog 9 (plainElem Tryz.prog 3) gk 20 (Lst kwL 20) := D ▸ e3
 rw [D]
 clear D d5 hP X a4 e3 b2 b3
 go_wp2_with fail
 apply (letter_any c _).mono
 rw [hc]
 rintro e w' ⟨rfl, rfl⟩
 go_wp2_with fail
 apply (pass_name e9 (Nat.le_of_lt hk) hs).mono
 rintro e W2 ⟨rfl, a9, M⟩
 rw [HE.out] at a9 ⊢
 rw [HT.out]
 have e7 := d8.trans M
 have e8 := a6.of (M.block _ a6.lt (by omega) (by omega))
 have G := a8.of (M.block _ a8.lt (by omega) (by omega))
 have c9 := owns_keep c8 M Y Y
 clear a6 a8 e9 d8 c8 M
 have d0 := G.c0
 have d1 := G.c1
 have e0 := G.frozen 0
 have e1 := G.frozen 1
 go_wp2
 change Code.wp _ _ _ _ ((W2.setCell ⟨w.heap.size + 1, 1, none⟩ (.string T)).setCell ⟨w.heap.size + 1, 0, none⟩ (I 1))
 have b5 := (G.set1 T).set0 1
 have d7 := (e8.other (r := w.heap.size + 1) (by omega) 1 (.string T)).other (r := w.heap.size + 1) (by omega) 0 (I 1)
 have a7 := (a9.other (r := w.heap.size + 1) (by omega) 1 (.string T)).other (r := w.heap.size + 1) (by omega) 0 (I 1)
 have d9 := (e7.setNew (r := w.heap.size + 1) (by omega) 1 (.string T)).setNew (r := w.heap.size + 1) (by omega) 0 (I 1)
 have e4 := owns_set (owns_set c9 (r := w.heap.size + 1) (by omega) 1 (.string T)) (r := w.heap.size + 1) (by omega) 0 (I 1)
 clear G e8 a9 e7 c9 d0 d1 e0 e1
 generalize (W2.setCell ⟨w.heap.size + 1, 1, none⟩ (.string T)).setCell ⟨w.heap.size + 1, 0, none⟩ (I 1) = W4 at *
 have d6 : T.size ≤ maxLen := by
  rw [f2.out]
  exact Nat.le_trans (Nat.le_trans (Nat.sub_le _ _) b9.2) (Nat.le_trans hs (by decide))
 have e6 : ∀ n, (Instr.lookup 148 (.map (some gk)) (.string T) false).run Tryz.prog (W4.drewN n) = .ok (I (lastOf kwL T.data.toList 20)) (W4.drewN n) := fun n => look_at (W := W4.drewN n) e4 T d6
 have e2 := kw_pos T.data.toList
 obtain ⟨cc, R⟩ := eX (lastOf kwL T.data.toList 20)
 rw [R] at e6 e2
 obtain ⟨q, hq⟩ := eX (isKw T.data.toList)
 rw [hq] at e2
 have U := O hq
 clear R hq d6 e4
 have b4 := a7.c4
 have d1 := b5.c1
 go_quiet (fail)
 rename_i nq
 obtain ⟨C, F⟩ := eX (W4.drewN nq)
 have g : Tk C w.heap.size 0 ⟨#[]⟩ 0 (0, 0) := F ▸ d7
 have H : Tk C (w.heap.size + 1) 1 T 0 (posAt s k) := F ▸ b5
 have a3 : Rd C b s E (.map (some gk)) v0 := F ▸ a7
 have a5 : Kp w C b b := by rw [← F]; exact d9.drewN nq
 rw [F]
 clear F d7 b5 a7 d9 b4 d1 e6
 have d0 := H.c0
 have d1 := H.c1
 have d2 := H.c2
 have d3 := H.c3
 have d4 := H.c4
 have e0 := H.frozen 0
 have z0 := g.c0
 have z1 := g.c1
 have z2 := g.c2
 have z3 := g.c3
 have z4 := g.c4
 have y0 := g.frozen
 have fin : ∀ (W : World) (x : Int) (v : Int), Tk W w.heap.size 0 ⟨#[]⟩ 0 (0, 0) → Rd W b s E (.map (some gk)) v0 → Kp w W b b → x = kd → v = er →
   let W' := ((((W.setCell ⟨w.heap.size, 0, none⟩ (I x)).setCell ⟨w.heap.size, 1, none⟩ (.string T)).setCell ⟨w.heap.size, 2, none⟩ (I 0)).setCell ⟨w.heap.size, 3, none⟩ (I (posAt s k).1)).setCell ⟨w.heap.size, 4, none⟩ (I (posAt s k).2)
   Tk W' w.heap.size x T 0 ((posAt s k).1, (posAt s k).2) ∧ WPost w b s k (.map (some gk)) v0 kd E 0 er (.returned (.tuple #[.agg #[I x, .string T, I 0, I (posAt s k).1, I (posAt s k).2], I v])) W' := by
  intro W x v h1 h2 h3 hx hv
  subst hx hv
  have A : b ≠ w.heap.size := by omega
  refine ⟨h1.set5 x T 0 _ _, by rw [HT.out], ((((h2.other A 0 _).other A 1 _).other A 2 _).other A 3 _).other A 4 _, ?_⟩
  exact ((((h3.setNew rl 0 _).setNew rl 1 _).setNew rl 2 _).setNew rl 3 _).setNew rl 4 _
 have HF := O fin
 clear fin
 cases q
 ·have S : (1 : Int) = kd := by have h := b8.out; rw [U.out] at h; simpa using h
  have a0 := O S
  clear S
  by_cases e5 : 16 < T.size
  ·have f0 : (16 : Int) < (T.size : Int) := by omega
   have j : (111 : Int) = er := by have h := b7.out; rw [U.out] at h; simpa [e5] using h
   have N := O j
   clear j
   go_wp2
   obtain ⟨J, Q⟩ := HF C 1 111 g a3 a5 a0 N
   exact end_tk J rfl rfl rfl rfl Q
  ·have f0 : ¬ (16 : Int) < (T.size : Int) := by omega
   have j : (0 : Int) = er := by have h := b7.out; rw [U.out] at h; simpa [e5] using h
   have N := O j
   clear j
   go_wp2
   obtain ⟨J, Q⟩ := HF C 1 0 g a3 a5 a0 N
   exact end_tk J rfl rfl rfl rfl Q
 ·have S : (3 : Int) = kd := by have h := b8.out; rw [U.out] at h; simpa using h
  have j : (0 : Int) = er := by have h := b7.out; rw [U.out] at h; simpa using h
  have a0 := O S
  have N := O j
  clear S j
  go_wp2
  have A : b ≠ w.heap.size + 1 := by omega
  obtain ⟨J, Q⟩ := HF (C.setCell ⟨w.heap.size + 1, 0, none⟩ (I 3)) 3 0 (g.other (by omega) 0 _) (a3.other A 0 _) (a5.setNew (by omega) 0 _) a0 N
  exact end_tk J rfl rfl rfl rfl Q
end Go.Proofs.YtgppcdfgdaggjaaGreatDoor
set_option maxRecDepth 100000
set_option maxHeartbeats 8000000
namespace Go.Proofs.YtgppcdfgdaggjaaGreatDoor
open Go.RowKit Go.Maps
theorem extract_while (f : UInt8 → Bool) (s : ByteArray) (k : Nat) : (s.extract k (endOf f s k)).data.toList = (s.data.toList.drop k).takeWhile f := by
 rw [ByteArray.data_extract, Array.toList_extract, List.extract_eq_take_drop]
 have h := List.prefix_iff_eq_take.1 (List.takeWhile_prefix (l := s.data.toList.drop k) f)
 unfold endOf
 rw [Nat.add_sub_cancel_left]
 exact h.symm
theorem while_all (f : UInt8 → Bool) (l : List UInt8) : ∀ c ∈ l.takeWhile f, f c = true := by
 induction l with
 | nil => intro c g; cases g
 | cons x r j =>
  intro c g
  by_cases h : f x = true
  ·rw [List.takeWhile_cons_of_pos h] at g
   rcases List.mem_cons.1 g with rfl | g
   ·exact h
   ·exact j c g
  ·rw [List.takeWhile_cons_of_neg h] at g
   cases g
theorem extract_all {f : UInt8 → Bool} {s : ByteArray} {k : Nat} : ∀ c ∈ (s.extract k (endOf f s k)).data.toList, f c = true := by
 rw [extract_while]
 intro c g
 exact while_all f _ c g
theorem endOf_lt {f : UInt8 → Bool} {s : ByteArray} {k : Nat} (g : k < s.size) (h : f (byte s k) = true) : k < endOf f s k := by
 rw [← endOf_yes g h]
 exact endOf_ge f s (k + 1)
def badP (s : ByteArray) (k : Nat) : Bool := !(numP (s.extract k (endOf isDig s k)).data.toList).2 || (decide (endOf isDig s k < s.size) && isLet (byte s (endOf isDig s k)))
theorem ErrR.keep {w w' : World} {b : Nat} (h : ErrR w) (j : Kp w w' b b) (g : 7 ≠ b) : ErrR w' := by
 obtain ⟨A, C, D, E⟩ := h
 refine ⟨Nat.lt_of_lt_of_le A j.size, C, D, ?_⟩
 rw [← E]
 unfold World.cell?
 rw [j.block 7 A g g]
theorem word_dig {w : World} {b k gk : Nat} {s : ByteArray} {v0 : Value} (hR : Rd w b s k (.map (some gk)) v0) (hO : w.ownsMap Tryz.prog 9 (plainElem Tryz.prog 3) gk 20 (Lst kwL 20)) (a5 : gk ≠ b) (hk : k < s.size) (hs : s.size ≤ 4294967296) (f5 : ErrR w) (g6 : b ≠ 7)
  (hc : isLet (byte s k) = false) (hd : isDig (byte s k) = true) :
  Calls Tryz.prog 105 #[Pt b] w (WPost w b s k (.map (some gk)) v0 2 (endOf isDig s k) (if badP s k then 0 else (numP (s.extract k (endOf isDig s k)).data.toList).1) (if badP s k then 112 else 0)) := by
 have a3 := hR.alloc zTok
 have b0 := a3.c0
 have b1 := a3.c1
 have g7 := endOf_le (f := isDig) (Nat.le_of_lt hk)
 obtain ⟨E, hE⟩ := eX (endOf isDig s k)
 have HE := O hE
 rw [hE] at g7 ⊢
 clear hE
 obtain ⟨T, R⟩ := eX (s.extract k E)
 have f7 : T.size = E - k := by rw [← R, ByteArray.size_extract]; omega
 have f4 : ∀ c ∈ T.data.toList, isDig c = true := by rw [← R, ← HE.out]; exact extract_all
 have h9 : k < E := by rw [← HE.out]; exact endOf_lt hk hd
 obtain ⟨nv, b4⟩ := eX ((numP T.data.toList).1)
 obtain ⟨ok, b6⟩ := eX ((numP T.data.toList).2)
 have c8 : badP s k = (!ok || (decide (E < s.size) && isLet (byte s E))) := by unfold badP; rw [HE.out, R, b6]
 obtain ⟨bad, e8⟩ := eX (badP s k)
 rw [e8] at c8 ⊢
 rw [R, b4]
 obtain ⟨nm, b9⟩ : ∃ nm : Int, (if bad then 0 else nv) = nm := ⟨_, rfl⟩
 obtain ⟨er, a7⟩ : ∃ er : Int, (if bad then 112 else 0) = er := ⟨_, rfl⟩
 rw [b9, a7]
 have a6 := O b9
 have a2 := O a7
 have HT := O R
 have e3 := O f7
 have HB := O c8
 have g8 := O b4
 have g3 := O b6
 have g5 := O f4
 clear R f7 e8 c8 b4 b6 b9 a7 f4
 have hZ : Tk (w.alloc zTok) w.heap.size 0 ⟨#[]⟩ 0 (0, 0) := World.alloc_heap_new _ _
 have e7 := hZ.alloc (pTok (posAt s k))
 have hP : Tk ((w.alloc zTok).alloc (pTok (posAt s k))) (w.heap.size + 1) 0 ⟨#[]⟩ 0 (posAt s k) := by
  have h : Tk ((w.alloc zTok).alloc (pTok (posAt s k))) (w.alloc zTok).heap.size 0 ⟨#[]⟩ 0 (posAt s k) := World.alloc_heap_new _ _
  rw [World.size_alloc] at h
  exact h
 have a4 := a3.alloc (pTok (posAt s k))
 have d5 : Kp w ((w.alloc zTok).alloc (pTok (posAt s k))) b b := ((Kp.refl w b b).alloc _).alloc _
 have e6 := owns_keep hO d5 a5 a5
 have h7 := hR.lt
 have h5 := hO.lt
 go_in
 go_wp2
 change Code.wp _ _ _ _ ((w.alloc zTok).alloc (pTok (posAt s k)))
 clear a3 hZ hR hO b0 b1
 generalize (w.alloc zTok).alloc (pTok (posAt s k)) = W0 at *
 have b2 := a4.c2
 have b3 := a4.c3
 have hz : (k : Int) < (s.size : Int) := by omega
 have g9 := byte_at hk
 obtain ⟨c, e9⟩ := eX (byte s k)
 rw [e9] at g9 hc hd
 clear e9
 go_quiet (fail)
 rename_i nq
 obtain ⟨W1, J⟩ := eX (W0.drewN nq)
 have b8 : Tk W1 w.heap.size 0 ⟨#[]⟩ 0 (0, 0) := J ▸ e7
 have d7 : Tk W1 (w.heap.size + 1) 0 ⟨#[]⟩ 0 (posAt s k) := J ▸ hP
 have f3 : Rd W1 b s k (.map (some gk)) v0 := J ▸ a4
 have f0 : Kp w W1 b b := by rw [← J]; exact d5.drewN nq
 have f1 : W1.ownsMap Tryz.prog 9 (plainElem Tryz.prog 3) gk 20 (Lst kwL 20) := J ▸ e6
 rw [J]
 clear J e7 hP a4 d5 e6 b2 b3
 go_wp2_with fail
 apply (letter_any c _).mono
 rw [hc]
 rintro e w' ⟨rfl, rfl⟩
 go_wp2_with fail
 apply (digit_any c _).mono
 rw [hd]
 rintro e w' ⟨rfl, rfl⟩
 go_wp2_with fail
 apply (pass_dig f3 (Nat.le_of_lt hk) hs).mono
 rintro e W2 ⟨rfl, a8, a1⟩
 rw [HE.out] at a8 ⊢
 rw [HT.out]
 have f9 := f0.trans a1
 have f2 := b8.of (a1.block _ b8.lt (by omega) (by omega))
 have Z := d7.of (a1.block _ d7.lt (by omega) (by omega))
 have g4 := owns_keep f1 a1 a5 a5
 clear b8 d7 f3 f0 f1 a1
 have d0 := Z.c0
 have d1 := Z.c1
 have e0 := Z.frozen
 go_wp2_with fail
 change Calls _ _ _ ((W2.setCell ⟨w.heap.size + 1, 1, none⟩ (.string T)).setCell ⟨w.heap.size + 1, 0, none⟩ (I 2)) _
 have b5 := (Z.set1 T).set0 2
 have d8 := (f2.other (r := w.heap.size + 1) (by omega) 1 (.string T)).other (r := w.heap.size + 1) (by omega) 0 (I 2)
 have f8 := (a8.other (r := w.heap.size + 1) (by omega) 1 (.string T)).other (r := w.heap.size + 1) (by omega) 0 (I 2)
 have d6 := (f9.setNew (r := w.heap.size + 1) (by omega) 1 (.string T)).setNew (r := w.heap.size + 1) (by omega) 0 (I 2)
 have e5 := f5.keep d6 (fun e => g6 e.symm)
 have h6 := f5.1
 clear Z f2 a8 f9 d0 d1 e0 g4
 generalize (W2.setCell ⟨w.heap.size + 1, 1, none⟩ (.string T)).setCell ⟨w.heap.size + 1, 0, none⟩ (I 2) = W4 at *
 apply (number_any T W4 (by rw [e3.out]; omega) (by rw [e3.out]; omega) g5 e5).mono
 rw [g8.out, g3.out]
 rintro e W5 ⟨rfl, a0⟩
 have U := d8.of (a0.block _ d8.lt)
 have V := b5.of (a0.block _ b5.lt)
 have H := f8.belowS a0
 have X := d6.trans (Kp.below a0)
 clear d8 b5 f8 d6 a0 e5
 have b2 := H.c2
 have b3 := H.c3
 have fin : ∀ (W : World) (x : Int) (v : Int), Tk W w.heap.size 0 ⟨#[]⟩ 0 (0, 0) → Rd W b s E (.map (some gk)) v0 → Kp w W b b → x = nm → v = er →
   let W' := ((((W.setCell ⟨w.heap.size, 0, none⟩ (I 2)).setCell ⟨w.heap.size, 1, none⟩ (.string T)).setCell ⟨w.heap.size, 2, none⟩ (I x)).setCell ⟨w.heap.size, 3, none⟩ (I (posAt s k).1)).setCell ⟨w.heap.size, 4, none⟩ (I (posAt s k).2)
   Tk W' w.heap.size 2 T x ((posAt s k).1, (posAt s k).2) ∧ WPost w b s k (.map (some gk)) v0 2 E nm er (.returned (.tuple #[.agg #[I 2, .string T, I x, I (posAt s k).1, I (posAt s k).2], I v])) W' := by
  intro W x v h1 h2 h3 hx hv
  subst hx hv
  have hb : b ≠ w.heap.size := by omega
  refine ⟨h1.set5 2 T x _ _, by rw [HT.out], ((((h2.other hb 0 _).other hb 1 _).other hb 2 _).other hb 3 _).other hb 4 _, ?_⟩
  exact ((((h3.setNew rl 0 _).setNew rl 1 _).setNew rl 2 _).setNew rl 3 _).setNew rl 4 _
 have HF := O fin
 clear fin
 have f6 : b ≠ w.heap.size + 1 := by omega
 cases ok
 ·have D : bad = true := by have h := HB.out; simpa using h
  have F : (0 : Int) = nm := by have h := a6.out; rw [D] at h; simpa using h
  have G : (112 : Int) = er := by have h := a2.out; rw [D] at h; simpa using h
  have M := O F
  have Q := O G
  clear F G D
  go_wp2
  go_quiet (fail)
  rename_i nq
  obtain ⟨C, A⟩ := eX (W5.drewN nq)
  have g : Tk C w.heap.size 0 ⟨#[]⟩ 0 (0, 0) := A ▸ U
  have j : Tk C (w.heap.size + 1) 2 T 0 (posAt s k) := A ▸ V
  have S : Rd C b s E (.map (some gk)) v0 := A ▸ H
  have Y : Kp w C b b := by rw [← A]; exact X.drewN nq
  rw [A]
  clear A U V H X b2 b3
  have d0 := j.c0
  have d1 := j.c1
  have d2 := j.c2
  have d3 := j.c3
  have d4 := j.c4
  have e2 := j.frozen 2
  have z0 := g.c0
  have z1 := g.c1
  have z2 := g.c2
  have z3 := g.c3
  have z4 := g.c4
  have y0 := g.frozen 0
  have y1 := g.frozen 1
  have y2 := g.frozen 2
  have y3 := g.frozen 3
  have y4 := g.frozen 4
  go_wp2
  obtain ⟨K, N⟩ := HF C 0 112 g S Y M Q
  exact end_tk K rfl rfl rfl rfl N
 ·by_cases a9 : E < s.size
  ·have h8 : (E : Int) < (s.size : Int) := by omega
   have h0 := byte_at a9
   obtain ⟨c2, c9⟩ := eX (byte s E)
   rw [c9] at h0
   obtain ⟨q2, b7⟩ := eX (isLet c2)
   have e4 : bad = q2 := by have h := HB.out; rw [c9, b7, decide_eq_true a9] at h; simpa using h
   have d9 := O e4
   have cl : ∀ W, Calls Tryz.prog 139 #[.int .u8 (c2.toNat : Int)] W fun e w' => e = .returned (.bool q2) ∧ w' = W := fun W => (letter_any c2 W).mono fun e w' h => ⟨by rw [h.1, b7], h.2.symm⟩
   clear c9 b7 e4
   go_wp2_with fail
   go_quiet ((go_at_call 139; exact Calls.quiet_of_same (cl _)))
   rename_i nq
   obtain ⟨C, A⟩ := eX (W5.drewN nq)
   have g : Tk C w.heap.size 0 ⟨#[]⟩ 0 (0, 0) := A ▸ U
   have j : Tk C (w.heap.size + 1) 2 T 0 (posAt s k) := A ▸ V
   have S : Rd C b s E (.map (some gk)) v0 := A ▸ H
   have Y : Kp w C b b := by rw [← A]; exact X.drewN nq
   rw [A]
   clear A U V H X b2 b3
   clear cl
   cases q2
   ·have D : bad = false := by exact d9
    have F : (nv : Int) = nm := by have h := a6.out; rw [D] at h; simpa using h
    have G : (0 : Int) = er := by have h := a2.out; rw [D] at h; simpa using h
    have M := O F
    have Q := O G
    clear F G D
    have d0 := j.c0
    have d1 := j.c1
    have d2 := j.c2
    have d3 := j.c3
    have d4 := j.c4
    have e2 := j.frozen 2
    have z0 := g.c0
    have z1 := g.c1
    have z2 := g.c2
    have z3 := g.c3
    have z4 := g.c4
    have y0 := g.frozen 0
    have y1 := g.frozen 1
    have y2 := g.frozen 2
    have y3 := g.frozen 3
    have y4 := g.frozen 4
    go_wp2
    obtain ⟨K, N⟩ := HF (C.setCell ⟨w.heap.size + 1, 2, none⟩ (I nv)) nv 0 (g.other (by omega) 2 _) (S.other f6 2 _) (Y.setNew (by omega) 2 _) M Q
    exact end_tk K rfl rfl rfl rfl N
   ·have D : bad = true := by exact d9
    have F : (0 : Int) = nm := by have h := a6.out; rw [D] at h; simpa using h
    have G : (112 : Int) = er := by have h := a2.out; rw [D] at h; simpa using h
    have M := O F
    have Q := O G
    clear F G D
    have d0 := j.c0
    have d1 := j.c1
    have d2 := j.c2
    have d3 := j.c3
    have d4 := j.c4
    have e2 := j.frozen 2
    have z0 := g.c0
    have z1 := g.c1
    have z2 := g.c2
    have z3 := g.c3
    have z4 := g.c4
    have y0 := g.frozen 0
    have y1 := g.frozen 1
    have y2 := g.frozen 2
    have y3 := g.frozen 3
    have y4 := g.frozen 4
    go_wp2
    obtain ⟨K, N⟩ := HF C 0 112 g S Y M Q
    exact end_tk K rfl rfl rfl rfl N
  ·have D : bad = false := by have h := HB.out; rw [decide_eq_false a9] at h; simpa using h
   have F : (nv : Int) = nm := by have h := a6.out; rw [D] at h; simpa using h
   have G : (0 : Int) = er := by have h := a2.out; rw [D] at h; simpa using h
   have M := O F
   have Q := O G
   clear F G D
   have h4 := decide_eq_false (by omega)
   go_wp2
   go_quiet (fail)
   rename_i nq
   obtain ⟨C, A⟩ := eX (W5.drewN nq)
   have g : Tk C w.heap.size 0 ⟨#[]⟩ 0 (0, 0) := A ▸ U
   have j : Tk C (w.heap.size + 1) 2 T 0 (posAt s k) := A ▸ V
   have S : Rd C b s E (.map (some gk)) v0 := A ▸ H
   have Y : Kp w C b b := by rw [← A]; exact X.drewN nq
   rw [A]
   clear A U V H X b2 b3
   have d0 := j.c0
   have d1 := j.c1
   have d2 := j.c2
   have d3 := j.c3
   have d4 := j.c4
   have e2 := j.frozen 2
   have z0 := g.c0
   have z1 := g.c1
   have z2 := g.c2
   have z3 := g.c3
   have z4 := g.c4
   have y0 := g.frozen
   go_wp2
   obtain ⟨K, N⟩ := HF (C.setCell ⟨w.heap.size + 1, 2, none⟩ (I nv)) nv 0 (g.other (by omega) 2 _) (S.other f6 2 _) (Y.setNew (by omega) 2 _) M Q
   exact end_tk K rfl rfl rfl rfl N
end Go.Proofs.YtgppcdfgdaggjaaGreatDoor
set_option maxRecDepth 100000
set_option maxHeartbeats 8000000
namespace Go.Proofs.YtgppcdfgdaggjaaGreatDoor
open Go.RowKit Go.Maps
theorem empty_list : ByteArray.toList ⟨#[]⟩ = [] := by
 unfold ByteArray.toList ByteArray.toList.loop
 rfl
theorem word_sgn {w : World} {b k j : Nat} {s : ByteArray} {v0 : Value} (S : Rd w b s k v0 (.map (some j))) (V : w.ownsMap Tryz.prog 9 (plainElem Tryz.prog 3) j 20 (Lst sgL 20)) (a1 : j ≠ b) (hk : k < s.size) (hs : s.size ≤ 4294967296)
  (hc : isLet (byte s k) = false) (hd : isDig (byte s k) = false) :
  Calls Tryz.prog 105 #[Pt b] w (WPost w b s k v0 (.map (some j)) 4 (k + sgnF s k (min 2 (s.size - k))) 0 (if sgnF s k (min 2 (s.size - k)) = 0 then 110 else 0)) := by
 have Q := S.alloc zTok
 have b0 := Q.c0
 have b1 := Q.c1
 obtain ⟨n, H⟩ := eX (sgnF s k (min 2 (s.size - k)))
 rw [H]
 have e2 : k + n ≤ s.size := by
  have h := sgnF_le s k (min 2 (s.size - k))
  rw [H] at h
  omega
 have d6 := O H
 clear H
 obtain ⟨T, hT⟩ := eX (s.extract k (k + n))
 have b7 : T.size = n := by rw [← hT, ByteArray.size_extract]; omega
 obtain ⟨er, a2⟩ : ∃ er : Int, (if n = 0 then 110 else 0) = er := ⟨_, rfl⟩
 rw [a2]
 have b8 := O a2
 have HT := O hT
 have a9 := O b7
 clear a2 hT b7
 have hZ : Tk (w.alloc zTok) w.heap.size 0 ⟨#[]⟩ 0 (0, 0) := World.alloc_heap_new _ _
 have a4 := hZ.alloc (pTok (posAt s k))
 have hP : Tk ((w.alloc zTok).alloc (pTok (posAt s k))) (w.heap.size + 1) 0 ⟨#[]⟩ 0 (posAt s k) := by
  have h : Tk ((w.alloc zTok).alloc (pTok (posAt s k))) (w.alloc zTok).heap.size 0 ⟨#[]⟩ 0 (posAt s k) := World.alloc_heap_new _ _
  rw [World.size_alloc] at h
  exact h
 have G := Q.alloc (pTok (posAt s k))
 have R : Kp w ((w.alloc zTok).alloc (pTok (posAt s k))) b b := ((Kp.refl w b b).alloc _).alloc _
 have a8 := owns_keep V R a1 a1
 have d9 := S.lt
 have d8 := V.lt
 go_in
 go_wp2
 change Code.wp _ _ _ _ ((w.alloc zTok).alloc (pTok (posAt s k)))
 clear Q hZ S V b0 b1
 generalize (w.alloc zTok).alloc (pTok (posAt s k)) = W0 at *
 have b2 := G.c2
 have b3 := G.c3
 have hz : (k : Int) < (s.size : Int) := by omega
 have d5 := byte_at hk
 obtain ⟨c, b6⟩ := eX (byte s k)
 rw [b6] at d5 hc hd
 clear b6
 go_quiet (fail)
 rename_i nq
 obtain ⟨E, C⟩ := eX (W0.drewN nq)
 have X : Tk E w.heap.size 0 ⟨#[]⟩ 0 (0, 0) := C ▸ a4
 have a0 : Tk E (w.heap.size + 1) 0 ⟨#[]⟩ 0 (posAt s k) := C ▸ hP
 have c8 : Rd E b s k v0 (.map (some j)) := C ▸ G
 have a5 : Kp w E b b := by rw [← C]; exact R.drewN nq
 have a3 : E.ownsMap Tryz.prog 9 (plainElem Tryz.prog 3) j 20 (Lst sgL 20) := C ▸ a8
 rw [C]
 clear C a4 hP G R a8 b2 b3
 go_wp2_with fail
 apply (letter_any c _).mono
 rw [hc]
 rintro e w' ⟨rfl, rfl⟩
 go_wp2_with fail
 apply (digit_any c _).mono
 rw [hd]
 rintro e w' ⟨rfl, rfl⟩
 go_wp2_with fail
 apply (sign_any c8 a3 a1 hk hs).mono
 rintro e W2 ⟨Y, a7, rfl, b5, M⟩
 rw [d6.out] at a7
 subst a7
 rw [HT.out]
 have b4 := a5.trans M
 have g := X.of (M.block _ X.lt (by omega) (by omega))
 have A := a0.of (M.block _ a0.lt (by omega) (by omega))
 clear X a0 c8 a5 a3 M
 have d0 := A.c0
 have d1 := A.c1
 have d2 := A.c2
 have d3 := A.c3
 have d4 := A.c4
 have e0 := A.frozen
 have z0 := g.c0
 have z1 := g.c1
 have z2 := g.c2
 have z3 := g.c3
 have z4 := g.c4
 have y0 := g.frozen
 have fin : ∀ (W : World) (v : Int), Tk W w.heap.size 0 ⟨#[]⟩ 0 (0, 0) → Rd W b s (k + Y) v0 (.map (some j)) → Kp w W b b → v = er →
   let W' := ((((W.setCell ⟨w.heap.size, 0, none⟩ (I 4)).setCell ⟨w.heap.size, 1, none⟩ (.string T)).setCell ⟨w.heap.size, 2, none⟩ (I 0)).setCell ⟨w.heap.size, 3, none⟩ (I (posAt s k).1)).setCell ⟨w.heap.size, 4, none⟩ (I (posAt s k).2)
   Tk W' w.heap.size 4 T 0 ((posAt s k).1, (posAt s k).2) ∧ WPost w b s k v0 (.map (some j)) 4 (k + Y) 0 er (.returned (.tuple #[.agg #[I 4, .string T, I 0, I (posAt s k).1, I (posAt s k).2], I v])) W' := by
  intro W v h1 J h3 hv
  subst hv
  have D : b ≠ w.heap.size := by omega
  refine ⟨h1.set5 4 T 0 _ _, by rw [HT.out], ((((J.other D 0 _).other D 1 _).other D 2 _).other D 3 _).other D 4 _, ?_⟩
  exact ((((h3.setNew rl 0 _).setNew rl 1 _).setNew rl 2 _).setNew rl 3 _).setNew rl 4 _
 have HF := O fin
 clear fin
 have N : b ≠ w.heap.size + 1 := by omega
 obtain ⟨q, hq⟩ := eX ((T.toList == ([] : List UInt8)))
 by_cases K : Y = 0
 ·have F : (110 : Int) = er := by have h := b8.out; rw [if_pos K] at h; exact h
  have Z := O F
  have c9 : T = ⟨#[]⟩ := by
   apply ByteArray.ext
   exact Array.eq_empty_of_size_eq_zero (by have h := a9.out; rw [K] at h; exact h)
  subst c9
  clear F hq
  go_wp2
  obtain ⟨U, g2⟩ := HF ((W2.setCell ⟨w.heap.size + 1, 1, none⟩ (.string ⟨#[]⟩)).setCell ⟨w.heap.size + 1, 0, none⟩ (I 4)) 110 ((g.other (by omega) 1 _).other (by omega) 0 _) ((b5.other N 1 _).other N 0 _) ((b4.setNew (by omega) 1 _).setNew (by omega) 0 _) Z
  exact end_tk U rfl rfl rfl rfl g2
 ·have F : (0 : Int) = er := by have h := b8.out; rw [if_neg K] at h; exact h
  have Z := O F
  have b9 : (T.toList == ByteArray.toList ⟨#[]⟩) = false := by
   rw [Lib.bytes_beq_false_iff]
   intro h
   have J := a9.out
   rw [h] at J
   exact K J.symm
  have a6 : ¬ T.toList = [] := by
   intro h
   rw [beq_eq_false_iff_ne] at b9
   apply b9
   rw [h, empty_list]
  have d7 : T.toList.isEmpty = false := by
   cases hl : T.toList with
   | nil => exact absurd hl a6
   | cons a l => rfl
  have e3 : (T.toList == []) = false := by
   cases hl : T.toList with
   | nil => exact absurd hl a6
   | cons a l => rfl
  clear F hq
  go_wp2
  obtain ⟨U, g2⟩ := HF ((W2.setCell ⟨w.heap.size + 1, 1, none⟩ (.string T)).setCell ⟨w.heap.size + 1, 0, none⟩ (I 4)) 0 ((g.other (by omega) 1 _).other (by omega) 0 _) ((b5.other N 1 _).other N 0 _) ((b4.setNew (by omega) 1 _).setNew (by omega) 0 _) Z
  exact end_tk U rfl rfl rfl rfl g2
end Go.Proofs.YtgppcdfgdaggjaaGreatDoor
namespace Go.Proofs.YtgppcdfgdaggjaaGreatDoor
open Go.RowKit Go.Maps
def wKind (s : ByteArray) (k : Nat) : Int := if isLet (byte s k) then (if isKw (s.extract k (endOf isAny s k)).data.toList then 3 else 1) else if isDig (byte s k) then 2 else 4
def wEnd (s : ByteArray) (k : Nat) : Nat := if isLet (byte s k) then endOf isAny s k else if isDig (byte s k) then endOf isDig s k else k + sgnF s k (min 2 (s.size - k))
def wNum (s : ByteArray) (k : Nat) : Int := if isLet (byte s k) then 0 else if isDig (byte s k) then (if badP s k then 0 else (numP (s.extract k (endOf isDig s k)).data.toList).1) else 0
def wErr (s : ByteArray) (k : Nat) : Int :=
 if isLet (byte s k) then (if isKw (s.extract k (endOf isAny s k)).data.toList then 0 else if 16 < endOf isAny s k - k then 111 else 0)
 else if isDig (byte s k) then (if badP s k then 112 else 0) else (if sgnF s k (min 2 (s.size - k)) = 0 then 110 else 0)
theorem word_any {w : World} {b k gk j : Nat} {s : ByteArray} (C : Rd w b s k (.map (some gk)) (.map (some j))) (F : w.ownsMap Tryz.prog 9 (plainElem Tryz.prog 3) gk 20 (Lst kwL 20)) (K : w.ownsMap Tryz.prog 9 (plainElem Tryz.prog 3) j 20 (Lst sgL 20))
  (E : gk ≠ b) (G : j ≠ b) (g : k < s.size) (D : s.size ≤ 4294967296) (H : ErrR w) (J : b ≠ 7) :
  Calls Tryz.prog 105 #[Pt b] w (WPost w b s k (.map (some gk)) (.map (some j)) (wKind s k) (wEnd s k) (wNum s k) (wErr s k)) := by
 unfold wKind wEnd wNum wErr
 cases A : isLet (byte s k) with
 | true => exact word_let C F E g D A
 | false =>
  cases hd : isDig (byte s k) with
  | true => exact word_dig C F E g D H J A hd
  | false => exact word_sgn C K G g D A hd
theorem wEnd_le {s : ByteArray} {k : Nat} (g : k < s.size) : wEnd s k ≤ s.size := by
 unfold wEnd
 split
 ·exact (endOf_le (Nat.le_of_lt g)).2
 ·split
  ·exact (endOf_le (Nat.le_of_lt g)).2
  ·have h := sgnF_le s k (min 2 (s.size - k))
   omega
theorem wEnd_gt {s : ByteArray} {k : Nat} (j : k < s.size) (g : wErr s k = 0) : k < wEnd s k := by
 unfold wErr at g
 unfold wEnd
 cases w : isLet (byte s k) with
 | true => exact endOf_lt j (by unfold isAny; rw [w]; rfl)
 | false =>
  cases hd : isDig (byte s k) with
  | true => exact endOf_lt j hd
  | false =>
   rw [w, hd] at g
   simp only [Bool.false_eq_true, if_false] at g ⊢
   split at g
   ·cases g
   ·omega
end Go.Proofs.YtgppcdfgdaggjaaGreatDoor
namespace Go.Proofs.YtgppcdfgdaggjaaGreatDoor
open Go.RowKit
end Go.Proofs.YtgppcdfgdaggjaaGreatDoor
namespace Go.Proofs.YtgppcdfgdaggjaaGreatDoor
open Go.RowKit
end Go.Proofs.YtgppcdfgdaggjaaGreatDoor
set_option maxRecDepth 100000
set_option maxHeartbeats 4000000
namespace Go.Proofs.YtgppcdfgdaggjaaGreatDoor
open Go.RowKit
def isName (s : ByteArray) : Bool := decide (0 < s.size) && (decide (s.size ≤ 16) && (isLet (byte s 0) && (s.data.toList.all isAny && !isKw s.data.toList)))
theorem name_any (s : ByteArray) (w : World) (hs : s.size ≤ 9223372036854775807) : Calls Tryz.prog 114 #[.string s] w fun e w' => e = .returned (.bool (isName s)) ∧ bL w w' := by
 by_cases g : s.size = 0
 ·have a1 : s = ⟨#[]⟩ := by
   apply ByteArray.ext
   exact Array.eq_empty_of_size_eq_zero g
  subst a1
  rw [show isName ⟨#[]⟩ = false from rfl]
  clear g hs
  go_in
  go_wp2
  go_ret
  exact ⟨rfl, Below.refl _ _⟩
 ·have E : ¬ s.toList = [] := by
   intro h
   apply g
   have Y : (s.toList == ByteArray.toList ⟨#[]⟩) = true := by rw [h, empty_list]; rfl
   rw [Lib.bytes_beq_iff] at Y
   rw [Y]
   rfl
  have a2 : s.toList.isEmpty = false := by
   cases M : s.toList with
   | nil => exact absurd M E
   | cons a l => rfl
  have a0 : (s.toList == []) = false := by
   cases M : s.toList with
   | nil => exact absurd M E
   | cons a l => rfl
  have A : 0 < s.size := by omega
  by_cases C : s.size ≤ 16
  ·have a3 : ¬ (16 : Int) < (s.size : Int) := by omega
   have a5 : (0 : Int) < (s.size : Int) := by omega
   have S := byte_at A
   obtain ⟨c, G⟩ := eX (byte s 0)
   rw [G] at S
   obtain ⟨q, J⟩ := eX (isLet c)
   obtain ⟨R, j⟩ := eX (isName s)
   rw [j]
   have Q : R = (q && (s.data.toList.all isAny && !isKw s.data.toList)) := by
    rw [← j]
    unfold isName
    rw [decide_eq_true A, decide_eq_true C, G, J]
    rfl
   have HR := O Q
   have cl := letter_any c w
   rw [J] at cl
   have H0 := O g
   clear j Q G J g
   go_in
   go_wp2_with fail
   apply cl.mono
   rintro e w' ⟨rfl, rfl⟩
   cases q
   ·obtain rfl : R = false := HR
    go_wp2
    go_ret
    exact ⟨rfl, Below.refl _ _⟩
   ·clear cl S E a2 a0
    go_wp2
    go_loopw [19] (fun i wr => ∃ k : Nat, k ≤ s.size ∧ i = I k ∧ w = wr ∧ Hid (((s.data.toList.drop k).all isAny && !isKw s.data.toList) = R)) (fun i _ => s.size - (intOf i).toNat)
    case atStart => exact ⟨0, by omega, rfl, rfl, O (by rw [HR.out]; rfl)⟩
    case round =>
     obtain ⟨k, hk, rfl, rfl, V⟩ := hrel
     by_cases U : k < s.size
     ·have hz : (k : Int) < (s.size : Int) := by omega
      have a4 := byte_at U
      obtain ⟨d, hd⟩ := eX (byte s k)
      have N := drop_byte U
      rw [hd] at a4 N
      obtain ⟨X, K⟩ := eX (isLet d)
      obtain ⟨W, D⟩ := eX (isDig d)
      have c1 := letter_any d w
      have c2 := digit_any d w
      rw [K] at c1
      rw [D] at c2
      have Z : (((X || W) && (s.data.toList.drop (k + 1)).all isAny) && !isKw s.data.toList) = R := by
       rw [← V.out, N, List.all_cons]
       unfold isAny
       rw [K, D]
      have F := O Z
      clear K D hd N Z
      go_wp2_with fail
      apply c1.mono
      rintro e w' ⟨rfl, rfl⟩
      cases X
      ·go_wp2_with fail
       apply c2.mono
       rintro e w' ⟨rfl, rfl⟩
       cases W
       ·obtain rfl : R = false := by rw [← F.out]; rfl
        go_wp2
        go_ret
        exact ⟨rfl, Below.refl _ _⟩
       ·have H := O (show ((s.data.toList.drop (k + 1)).all isAny && !isKw s.data.toList) = R by rw [← F.out]; rfl)
        go_wp2
        go_roundw
        case rel => exact ⟨k + 1, by omega, by go_num, trivial, H⟩
        case measure => simp [intOf]; omega
      ·have H := O (show ((s.data.toList.drop (k + 1)).all isAny && !isKw s.data.toList) = R by rw [← F.out]; rfl)
       go_wp2
       go_roundw
       case rel => exact ⟨k + 1, by omega, by go_num, trivial, H⟩
       case measure => simp [intOf]; omega
     ·obtain rfl : k = s.size := by omega
      have j : R = !isKw s.data.toList := by
       rw [← V.out, List.drop_eq_nil_of_le (by rw [size_list]; exact Nat.le_refl _)]
       rfl
      subst j
      go_wp2_with fail
      apply (keyword_any s w (by omega)).mono
      rintro e w' ⟨rfl, hb⟩
      go_wp2
      go_ret
      exact ⟨rfl, hb⟩
  ·have a3 : (16 : Int) < (s.size : Int) := by omega
   rw [show isName s = false by unfold isName; rw [decide_eq_true A, decide_eq_false C]; rfl]
   clear g C A
   go_in
   go_wp2
   go_ret
   exact ⟨rfl, Below.refl _ _⟩
end Go.Proofs.YtgppcdfgdaggjaaGreatDoor
