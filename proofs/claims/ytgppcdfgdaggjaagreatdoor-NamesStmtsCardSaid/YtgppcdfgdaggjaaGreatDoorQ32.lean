/- Texts laid together. No condition but what each law says. -/
import Derived.Test.YtgppcdfgdaggjaaGreatDoorQ31
import Derived.Test.YtgppcdfgdaggjaaGreatDoorQ26
import Derived.Test.YtgppcdfgdaggjaaGreatDoorQ01
import Derived.Test.YtgppcdfgdaggjaaGreatDoorQ24
import Derived.Test.YtgppcdfgdaggjaaGreatDoorQ25
set_option maxRecDepth 100000
set_option maxHeartbeats 8000000
namespace Go.Proofs.YtgppcdfgdaggjaaGreatDoor
open Go.RowKit Go.Maps
theorem ins_wn {w : World} {g n : Nat} {j : List MapEntry} (h : w.heap[g]? = some (.map j.toArray n)) (k : Int) (v : Value) (D : Instr.findNow (.int .i64) (I k) j 0 = some none) :
  ∃ W, (Instr.mapUpdate 98 (.map (some g)) (I k) v).run Tryz.prog w = .ok () W ∧ W.heap[g]? = some (.map (j ++ [(⟨I k, v, n⟩ : MapEntry)]).toArray (n + 1)) ∧ ChM g w W := by
 have A : MapKept.IsKey (.int .i64) (I k) := by simp [MapKept.IsKey]
 have C : Instr.findNow (.int .i64) (I k) j.toArray.toList 0 = some none := by simpa using D
 refine ⟨{ w with heap := w.heap.setIfInBounds g (.map (j ++ [(⟨I k, v, n⟩ : MapEntry)]).toArray (n + 1)) }, ?_, (MapKept.heap_set h).1, chM_put h⟩
 simp [Instr.mapUpdate, run_underlying under98, MapKept.run_getObj_map h, MapKept.run_checkKey under53 A, MapKept.run_findKey under53 C, MapKept.run_setObj_map _ h, Result.andThen]
theorem pwants_any (w : World) : Calls Tryz.prog 36 #[] w fun e w' => ∃ g, e = .returned (.map (some g)) ∧ w.heap.size ≤ g ∧ w'.heap[g]? = some (.map wantEs.toArray 10) ∧ bL w w' := by
 obtain ⟨g, j⟩ := eX (w.heap.size)
 obtain ⟨C, A⟩ := eX (w.alloc (.map #[] 0))
 have d2 : (Instr.makeMap 98 none).run Tryz.prog w = .ok (.map (some g)) C := by
  rw [← j, ← A]
  kernel_rfl
 have a1 : bL w C := by rw [← A]; exact (Below.refl _ w).alloc rl _
 have D : C.heap[g]? = some (.map ([] : List MapEntry).toArray 0) := by rw [← A, ← j]; exact World.alloc_heap_new _ _
 obtain ⟨W1, d3, M, U⟩ := ins_wn D 2 (.agg #[I 1, I 0, .bool true, .bool false]) (by rfl)
 obtain ⟨W2, c9, b8, N⟩ := ins_wn M 3 (.agg #[I 2, I 0, .bool false, .bool false]) (by rfl)
 obtain ⟨W3, d6, b4, a7⟩ := ins_wn b8 6 (.agg #[I 3, I 0, .bool false, .bool false]) (by rfl)
 obtain ⟨W4, d7, a0, b7⟩ := ins_wn b4 7 (.agg #[I 3, I 0, .bool false, .bool false]) (by rfl)
 obtain ⟨W5, d1, b5, G⟩ := ins_wn a0 8 (.agg #[I 4, I 3, .bool false, .bool false]) (by rfl)
 obtain ⟨W6, d5, a3, a2⟩ := ins_wn b5 9 (.agg #[I 4, I 0, .bool false, .bool false]) (by rfl)
 obtain ⟨W7, d4, b6, V⟩ := ins_wn a3 10 (.agg #[I 4, I 0, .bool false, .bool false]) (by rfl)
 obtain ⟨W8, c8, a8, E⟩ := ins_wn b6 11 (.agg #[I 5, I 0, .bool false, .bool false]) (by rfl)
 obtain ⟨W9, d0, Q, b9⟩ := ins_wn a8 12 (.agg #[I 5, I 1, .bool false, .bool true]) (by rfl)
 obtain ⟨J, d8, R, F⟩ := ins_wn Q 13 (.agg #[I 6, I 0, .bool false, .bool false]) (by rfl)
 have H := U.below (Nat.le_of_eq j) a1
 have a6 := N.below (Nat.le_of_eq j) H
 have K := a7.below (Nat.le_of_eq j) a6
 have S := b7.below (Nat.le_of_eq j) K
 have a5 := G.below (Nat.le_of_eq j) S
 have X := a2.below (Nat.le_of_eq j) a5
 have a9 := V.below (Nat.le_of_eq j) X
 have a4 := E.below (Nat.le_of_eq j) a9
 have Y := b9.below (Nat.le_of_eq j) a4
 have Z := F.below (Nat.le_of_eq j) Y
 have HF : Hid (w.heap.size ≤ g ∧ J.heap[g]? = some (.map wantEs.toArray 10) ∧ bL w J) := O ⟨Nat.le_of_eq j, R, Z⟩
 clear D M b8 b4 a0 b5 a3 b6 a8 Q R a1 H a6 K S a5 X a9 a4 Y Z U N a7 b7 G a2 V E b9 F j A
 go_in
 go_wp2
 go_ret
 exact ⟨g, rfl, HF⟩
end Go.Proofs.YtgppcdfgdaggjaaGreatDoor
set_option maxRecDepth 100000
set_option maxHeartbeats 8000000
namespace Go.Proofs.YtgppcdfgdaggjaaGreatDoor
open Go.RowKit Go.Maps
theorem tb_flaw (x y z : Int) (w : World) : (Instr.typeAssert (.iface 95 (.agg #[I x, I y, I z])) 20 95 true).run Tryz.prog w = .ok (.tuple #[.agg #[I x, I y, I z], .bool true]) w := by kernel_rfl
theorem eqg_nil (w : World) : Sem.run Tryz.prog (eqGuard .eql 20 (.tmp 6) (.const .nilIface) .nilIface .nilIface) w = .ok () w := by kernel_rfl
theorem eqb_nil (w : World) : Sem.run Tryz.prog (binOp .eql 20 .nilIface .nilIface) w = .ok (.bool true) w := by kernel_rfl
theorem eqg_flw (x y z : Int) (w : World) : Sem.run Tryz.prog (eqGuard .eql 20 (.tmp 6) (.const .nilIface) (.iface 95 (.agg #[I x, I y, I z])) .nilIface) w = .ok () w := by kernel_rfl
theorem eqb_flw (x y z : Int) (w : World) : Sem.run Tryz.prog (binOp .eql 20 (.iface 95 (.agg #[I x, I y, I z])) .nilIface) w = .ok (.bool false) w := by kernel_rfl
theorem info33 : (Tryz.prog.info? 33).map (·.size) = some 1 := by kernel_rfl
structure CaughtF (w w' : World) (z2 z3 z4 : Nat) (f : Flw) : Prop where
 l : Blk w' z2 30 zPgC
 p : Blk w' z3 32 [.int .i64 f.1.1, .int .i64 f.1.2]
 e : Blk w' z4 33 [.int .i64 f.2]
 os : w'.os = w.os
 tape : w'.tape = w.tape
 output : w'.output = w.output
 size : w.heap.size ≤ w'.heap.size
 block : ∀ c, c < w.heap.size → c ≠ z2 → c ≠ z3 → c ≠ z4 → w'.heap[c]? = w.heap[c]?
theorem fcatch_idle (J F E : Nat) (w : World) : CallsD Tryz.prog 35 #[Pt J, Pt F, Pt E] .returning w fun e j w' => e = .returned (.tuple #[]) ∧ j = .returning ∧ bL w w' := by
 refine callsD_of_wpS Tryz.func35 rfl fun H cs D => ?_
 simp only [Tryz.ntmps35, List.size_toArray, List.length_cons, List.length_nil, Nat.reduceAdd, Nat.reduceSub, Array.replicate_succ, Array.replicate_zero, List.push_toArray, List.append_toArray, List.nil_append, List.cons_append]
 apply wpS_seq
 apply wpS_region
 simp [wpOpsS, go_sem, recoverD, D, Exit.thenS]
 apply wpS_of_wp
 have g := O (Below.refl w.heap.size w)
 have C := eqg_nil
 have G := eqb_nil
 go_wp2
 simp [bodyPostS, results, Tryz.f35]
 have A := g.out
 clear g C G
 exact ⟨.returning, by cases H; simp_all, rfl, A⟩
theorem fcatch_panicking (C A j : Nat) (f : Flw) {l2 : List Value} {p q r : Int} (b4 : List PanicEntry) (w : World) (h2 : Blk w C 30 l2) (hl : l2.length = 13) (h3 : Blk w A 32 [I p, I q]) (h4 : Blk w j 33 [I r]) (b5 : C ≠ A ∧ C ≠ j ∧ A ≠ j) :
  CallsD Tryz.prog 35 #[Pt C, Pt A, Pt j] (.panicking ({ flawN f with recovered := false } :: b4)) w fun e u' w' => e = .returned (.tuple #[]) ∧ u' = .panicking ({ flawN f with recovered := true } :: b4) ∧ CaughtF w w' C A j f := by
 obtain ⟨⟨fl, fc⟩, g⟩ := f
 refine callsD_of_wpS Tryz.func35 rfl fun c₀ cs hu => ?_
 simp only [Tryz.ntmps35, List.size_toArray, List.length_cons, List.length_nil, Nat.reduceAdd, Nat.reduceSub, Array.replicate_succ, Array.replicate_zero, List.push_toArray, List.append_toArray, List.nil_append, List.cons_append]
 apply wpS_seq
 apply wpS_region
 simp [wpOpsS, go_sem, recoverD, hu, Exit.thenS]
 refine wpS_of_wp ?_
 have ht := tb_flaw fl fc g
 have e1 := eqg_flw fl fc g
 have e2 := eqb_flw fl fc g
 simp only [flawN]
 have a1 := O h2
 have a7 := O h3
 have a6 := O h4
 clear h2 h3 h4
 go_wp2_with fail
 have Z : Hid (Blk (w.alloc (.cells #[I fl, I fc, I g] 95)) w.heap.size 95 [I fl, I fc, I g] ∧ Below w.heap.size w (w.alloc (.cells #[I fl, I fc, I g] 95))) := O ⟨Blk.new _ _ _, (Below.refl _ w).alloc (Nat.le_refl _) _⟩
 generalize w.alloc (.cells #[I fl, I fc, I g] 95) = W0 at *
 obtain ⟨D, a0⟩ : ∃ b, w.heap.size = b := ⟨_, rfl⟩
 have G : Hid (C < D ∧ A < D ∧ j < D ∧ w.heap.size = D) := O (by rw [← a0]; exact ⟨a1.out.lt, a7.out.lt, a6.out.lt, rfl⟩)
 rw [a0] at Z
 rw [a0]
 have HB : Hid (Below D w W0) := O Z.out.2
 have X := O b5
 have b7 := O hl
 clear ht e1 e2 b5 hl a0
 have b6 : Tryz.prog.follows .mixedOrders = true := by kernel_rfl
 obtain ⟨H, Y⟩ : ∃ H, W0.drew = H := ⟨_, rfl⟩
 have V : Hid (Below D w H) := O (by rw [← Y]; exact HB.out.trans (Below.refl _ _).drew)
 have K : Hid (Blk H D 95 [I fl, I fc, I g]) := O (by rw [← Y]; exact Z.out.1.drew)
 have a5 : Hid (Blk H C 30 l2 ∧ Blk H A 32 [I p, I q] ∧ Blk H j 33 [I r]) := O ⟨a1.out.of (V.out.block _ G.out.1), a7.out.of (V.out.block _ G.out.2.1), a6.out.of (V.out.block _ G.out.2.2.1)⟩
 clear Z HB a1 a7 a6
 refine wp_region_x [] (fun W => Blk W D 95 [I fl, I fc, I g]) b6 ?_
 rw [Y]
 clear Y
 refine tk 0 (some 12) K ?_
 refine tk 1 (some 13) K ?_
 refine wpX_takeD 2 (some 14) (v := ?_) rfl rfl (by kernel_rfl) (fun _ _ _ h => h) K.out (Or.inl ⟨by rfl, ?_⟩) ?_
 rotate_left
 ·intro W1 M
  have f0 := M.cell 0
  have f1 := M.cell 1
  simp only [List.getElem?_cons_zero, List.getElem?_cons_succ] at f0 f1
  clear M
  go_simp
  first | with_reducible rfl | rw [if_neg (by omega)]
 refine tk 3 (some 15) K ?_
 refine nm ?_
 refine wpX_takeD 4 (some 16) (v := ?_) rfl rfl (by kernel_rfl) (fun _ _ _ h => h) K.out (Or.inl ⟨by rfl, ?_⟩) ?_
 rotate_left
 ·intro W1 M
  have f2 := M.cell 2
  simp only [List.getElem?_cons_zero, List.getElem?_cons_succ] at f2
  clear M
  go_simp
  first | with_reducible rfl | rw [if_neg (by omega)]
 refine nm ?_
 refine oD 5 fun Q E => ?_
 refine wp_store_ch info30 (.tmp 0) (.tmp 12) rfl C zPgC _ rfl rfl a5.out.1 b7.out ⟨rfl, by decide⟩ ?_
 intro W5 k5 c5
 have R := O (And.intro k5 c5)
 clear k5 c5
 have a8 := O (R.out.2.blk (by have := G.out; omega) K.out)
 refine E _ _ (fun _ => a8.out) ?_
 clear E Q
 refine oD 6 fun Q E => ?_
 refine wp_store_ch info32a (.tmp 1) (.tmp 14) rfl A [I fl, I fc] _ rfl rfl (R.out.2.blk (by have := X.out; omega) a5.out.2.1) rfl (two_one fl fc) ?_
 intro W6 k6 c6
 have U := O (And.intro k6 c6)
 clear k6 c6
 have a9 := O (U.out.2.blk (by have := G.out; omega) a8.out)
 refine E _ _ (fun _ => a9.out) ?_
 clear E Q
 refine oD 7 fun Q E => ?_
 refine wp_store_one info33 (.tmp 2) (.tmp 16) rfl j 0 33 (I g) _ rfl rfl rfl rfl (U.out.2.blk (by have := X.out; omega) (R.out.2.blk (by have := X.out; omega) a5.out.2.2)) (by simp) ?_
 intro W7 k7 c7
 have K7 := O (And.intro k7 c7)
 clear k7 c7
 have b8 := O (K7.out.2.blk (by have := G.out; omega) a9.out)
 refine E _ _ (fun _ => b8.out) ?_
 clear E Q
 try simp only [Act.put]
 refine dn ?_
 have HF : Hid (CaughtF w W7 C A j ((fl, fc), g)) := O (by
  have hn := X.out
  have S := R.out.2.chM
  have J := U.out.2.chM
  have F := K7.out.2.chM
  have N := V.out
  exact ⟨F.blk (by omega) (J.blk (by omega) R.out.1), F.blk (by omega) U.out.1, K7.out.1, F.os.trans (J.os.trans (S.os.trans N.os)), F.tape.trans (J.tape.trans (S.tape.trans N.tape)), F.output.trans (J.output.trans (S.output.trans N.output)), by rw [F.size, J.size, S.size]; exact N.size, fun c hc a2 a3 a4 => (F.block c a4).trans ((J.block c a3).trans ((S.block c a2).trans (N.block c (by have := G.out.2.2.2; omega))))⟩)
 go_wp2_with fail
 simp [bodyPostS, results, Tryz.f35]
 exact HF.out
end Go.Proofs.YtgppcdfgdaggjaaGreatDoor
namespace Go.Proofs.YtgppcdfgdaggjaaGreatDoor
open Go.RowKit Go.Maps
theorem fres {W : World} {tmps : Array Value} {j g n0 : Nat} {l2 : List Value} {p q r : Int} (F : tmps.getD 2 undef = Pt j) (K : tmps.getD 3 undef = Pt g) (Q : tmps.getD 4 undef = Pt n0) (b2 : Blk W j 30 l2) (A : l2.length = 13) (b3 : Blk W g 32 [I p, I q]) (N : Blk W n0 33 [I r]) :
  (results Tryz.f14 tmps).run Tryz.prog W = .ok (.tuple #[.agg l2.toArray, .agg #[I p, I q], I r]) W := by
 obtain ⟨S, H, E⟩ := under30
 obtain ⟨D, U, V⟩ := under32a
 have R : tmps[2]?.getD undef = Pt j := by rw [← F]; simp
 have G : tmps[3]?.getD undef = Pt g := by rw [← K]; simp
 have M : tmps[4]?.getD undef = Pt n0 := by rw [← Q]; simp
 have J := run_loadVar_mid (P := Tryz.prog) W j 0 30 l2 S b2.whole H E (by rw [A]; exact info30)
 have w := run_loadVar_mid (P := Tryz.prog) W g 0 32 _ D b3.whole U V info32a
 have c4 := N.cell 0
 simp only [List.getElem?_cons_zero] at c4
 have C : (loadVar 33 ⟨n0, 0, none⟩).run Tryz.prog W = .ok (I r) W := by
  simp [go_sem, c4]
 simp [results, R, G, M, asAddr, J, w, C]
structure F3 (w W : World) (z2 z3 z4 : Nat) (ps : List Value) (p q r : Int) : Prop where
 l : Blk W z2 30 ps
 n : ps.length = 13
 p : Blk W z3 32 [.int .i64 p, .int .i64 q]
 e : Blk W z4 33 [.int .i64 r]
 b : Below w.heap.size w W
 lt : w.heap.size ≤ z2 ∧ w.heap.size ≤ z3 ∧ w.heap.size ≤ z4 ∧ z2 ≠ z3 ∧ z2 ≠ z4 ∧ z3 ≠ z4
section
variable {w W W' : World} {z2 z3 z4 : Nat} {ps : List Value} {p q r : Int}
theorem F3.below (H : F3 w W z2 z3 z4 ps p q r) (g : bL W W') : F3 w W' z2 z3 z4 ps p q r := ⟨H.l.below g, H.n, H.p.below g, H.e.below g, H.b.trans (g.mono H.b.size), H.lt⟩
theorem F3.kpB {B F g : Nat} (H : F3 w W z2 z3 z4 ps p q r) (j : KpB B F g W W') (A : z2 < B ∧ z3 < B ∧ z4 < B) (D : z2 < F ∧ z3 < F ∧ z4 < F) (E : z2 < g ∧ z3 < g ∧ z4 < g) (G : w.heap.size ≤ B) : F3 w W' z2 z3 z4 ps p q r :=
 ⟨H.l.of (j.block _ A.1 (by omega) (by omega)), H.n, H.p.of (j.block _ A.2.1 (by omega) (by omega)), H.e.of (j.block _ A.2.2 (by omega) (by omega)), ⟨j.os.trans H.b.os, j.tape.trans H.b.tape, j.output.trans H.b.output, Nat.le_trans H.b.size j.size, fun c C => (j.block c (by omega) (by have := H.lt; omega) (by have := H.lt; omega)).trans (H.b.block c C)⟩, H.lt⟩
theorem F3.ch {c : Nat} (H : F3 w W z2 z3 z4 ps p q r) (g : Ch c W W') (j : z2 ≠ c ∧ z3 ≠ c ∧ z4 ≠ c) (A : w.heap.size ≤ c) : F3 w W' z2 z3 z4 ps p q r := ⟨g.blk j.1 H.l, H.n, g.blk j.2.1 H.p, g.blk j.2.2 H.e, g.below A H.b, H.lt⟩
theorem pgs_len {P : Pg} {n : Nat} (k : Nat) (g : 9 ≤ k) : ((lsP P).getD k []).length ≤ n := by
 rw [List.getD_eq_getElem?_getD, List.getElem?_eq_none (by simp [lsP]; omega)]
 exact Nat.zero_le _
def dfr35 (z2 z3 z4 : Nat) : List Deferred := [{ target := .fn (.func 35) #[.pointer (some ⟨z2, 0, none⟩), .pointer (some ⟨z3, 0, none⟩), .pointer (some ⟨z4, 0, none⟩)], args := #[] }]
theorem find_gone {f : Flw} {A : Act} (H : F3 w W z2 z3 z4 ps p q r) (E : A.tmps.getD 2 undef = Pt z2) (D : A.tmps.getD 3 undef = Pt z3) (G : A.tmps.getD 4 undef = Pt z4) (hd : A.defers = dfr35 z2 z3 z4) :
  bodyPostD Tryz.prog Tryz.f14 (FOk w (zPg, f.1, f.2)) (.panic [flawN f]) A W := by
 show Leaves Tryz.prog Tryz.f14 A.tmps (FOk w (zPg, f.1, f.2)) A.defers (.panicking [flawN f]) W
 rw [hd]
 apply leaves_cons (f := 35) (args := #[Pt z2, Pt z3, Pt z4]) (by simp) (by simp [go_sem])
 apply (fcatch_panicking z2 z3 z4 f [] W H.l H.n H.p H.e ⟨H.lt.2.2.2.1, H.lt.2.2.2.2.1, H.lt.2.2.2.2.2⟩).mono
 rintro e J w' ⟨rfl, rfl, g⟩
 have C := fres E D G g.l rfl g.p g.e
 have F : FOk w (zPg, f.1, f.2) (.returned (.tuple #[.agg zPgC.toArray, .agg #[I f.1.1, I f.1.2], I f.2])) w' := ⟨⟨zPgC, rfl, pgRL_zero _ _⟩, ⟨g.os.trans H.b.os, g.tape.trans H.b.tape, g.output.trans H.b.output, Nat.le_trans H.b.size g.size, fun c j => (g.block c (Nat.lt_of_lt_of_le j H.b.size) (by have := H.lt; omega) (by have := H.lt; omega) (by have := H.lt; omega)).trans (H.b.block c j)⟩⟩
 simp only [settle]
 exact ⟨_, C, F⟩
theorem find_done {P : Pg} {A : Act} (H : F3 w W z2 z3 z4 ps p q r) (K : PgRL (w.heap.size ≤ ·) W P ps) (F : A.tmps.getD 2 undef = Pt z2) (E : A.tmps.getD 3 undef = Pt z3) (J : A.tmps.getD 4 undef = Pt z4) (hd : A.defers = dfr35 z2 z3 z4) :
  bodyPostD Tryz.prog Tryz.f14 (FOk w (P, (p, q), r)) .ret A W := by
 show Leaves Tryz.prog Tryz.f14 A.tmps (FOk w (P, (p, q), r)) A.defers .returning W
 rw [hd]
 apply leaves_cons (f := 35) (args := #[Pt z2, Pt z3, Pt z4]) (by simp) (by simp [go_sem])
 apply (fcatch_idle z2 z3 z4 W).mono
 rintro e M w' ⟨rfl, rfl, j⟩
 have g := H.below j
 have D := fres F E J g.l g.n g.p g.e
 have G : FOk w (P, (p, q), r) (.returned (.tuple #[.agg ps.toArray, .agg #[I p, I q], I r])) w' := ⟨⟨ps, rfl, K.keep fun b o u _ C => below_cell j b o u C⟩, g.b⟩
 simp only [settle]
 exact ⟨_, D, G⟩
theorem find_early {P : Pg} {A : Act} (H : F3 w W z2 z3 z4 ps p q r) (F : PgRL (w.heap.size ≤ ·) W P ps) (C : A.tmps.getD 2 undef = Pt z2) (j : A.tmps.getD 3 undef = Pt z3) (E : A.tmps.getD 4 undef = Pt z4) (hd : A.defers = []) :
  bodyPostD Tryz.prog Tryz.f14 (FOk w (P, (p, q), r)) .ret A W := by
 show Leaves Tryz.prog Tryz.f14 A.tmps (FOk w (P, (p, q), r)) A.defers .returning W
 rw [hd]
 have g := fres C j E H.l H.n H.p H.e
 have D : FOk w (P, (p, q), r) (.returned (.tuple #[.agg ps.toArray, .agg #[I p, I q], I r])) W := ⟨⟨ps, rfl, F⟩, H.b⟩
 exact ⟨_, g, D⟩
end
theorem ro_of_flat {g : Type} {E : El g} {ty : TypeId} {sz B : Nat} {w : World} {v : Value} {l : List g} (f : g → List Value) (F : E.sz = sz) (h : Grow (elV ty sz) B w v (l.map f)) (M : ∀ x, x ∈ l → E.L (B ≤ ·) w (f x) x) : Ro E (B ≤ ·) w v l := by
 obtain ⟨a, cap, D, C, J⟩ := Ro.of h
 refine ⟨a, cap, by simpa using D, by simpa using C, fun j x A => ?_⟩
 obtain ⟨b, N, cs, Q, G, H, K⟩ := J j (f x) (by simp [A])
 refine ⟨b, N, cs, Q, G, by rw [F]; exact H, ?_⟩
 rw [K.1]
 exact M x (List.mem_of_getElem? A)
theorem pgL_of {w0 w W : World} {B F g h n0 n5 n6 : Nat} {P : Pg} {vs : List Value} {D : PF} {C : List Value} {G : List Th} (H : Bo w0 w B F g h n0 P vs D C G W) (Q : vs.getD 3 nilV = .slice (some ⟨n0, 0, none⟩) n5 n6) (A : n5 = G.length) (N : Roomy n5 n6) : PgL (B ≤ ·) W { P with threads := G } (vs.getD 0 nilV) (vs.getD 1 nilV) (vs.getD 2 nilV) (vs.getD 3 nilV) (vs.getD 4 nilV) (vs.getD 5 nilV) (vs.getD 6 nilV) (vs.getD 7 nilV) (vs.getD 8 nilV) := by
 subst A
 refine ⟨ro_of_flat (E := elI 2) cI rfl (H.o 0 (by decide) (by decide)).1 fun x _ => rfl, ro_of_flat (E := elI 3) cI rfl (H.o 1 (by decide) (by decide)).1 fun x _ => rfl, ro_of_flat (E := elI 3) cI rfl (H.o 2 (by decide) (by decide)).1 fun x _ => rfl, ?_, ro_of_flat (E := elS) cS rfl (H.o 4 (by decide) (by decide)).1 fun x _ => rfl, ro_of_flat (E := elS) cS rfl (H.o 5 (by decide) (by decide)).1 fun x _ => rfl, ro_of_flat (E := elS) cS rfl (H.o 6 (by decide) (by decide)).1 fun x _ => rfl, ro_of_flat (E := elS) cS rfl (H.o 7 (by decide) (by decide)).1 fun x _ => rfl, ro_of_flat (E := elS) cS rfl (H.o 8 (by decide) (by decide)).1 fun x _ => rfl⟩
 refine ⟨some ⟨n0, 0, none⟩, n6, Q, N, fun j x R => ?_⟩
 obtain ⟨cs, M, J⟩ := H.a j x R
 refine ⟨n0, 0, cs, rfl, H.lt.1.2.2.2, fun t u K => ?_, elTh.weak (fun c J => J.1.1) M⟩
 have S : cs.length = 3 := (elTh.cells M).1
 have A : t < 3 := by
  have := (List.getElem?_eq_some_iff.1 K).1
  omega
 refine World.cellF_mk H.t ?_
 show W.cell? ⟨n0, 0 + j * 3 + t, none⟩ = some u
 rw [H.t.cell, Nat.zero_add, J t A]
 exact K
structure Dk (l : List De) (i : Nat) (P : Pg) (L : List Nm) (ce : Int) : Prop where
 ln : (P.vars.length ≤ i ∧ P.arrays.length ≤ i ∧ P.chans.length ≤ i ∧ P.threads.length ≤ i) ∧ (P.nv.length ≤ i ∧ P.na.length ≤ i ∧ P.nm.length ≤ i ∧ P.nc.length ≤ i ∧ P.nh.length ≤ i) ∧ P.mutexes ≤ i ∧ P.conds ≤ i
 ce : 0 ≤ ce ∧ ce ≤ 256
 th : ∀ t ∈ P.threads, t.body = [] ∧ t.locals = 0
 c6 : P.threads.length + cnt6 (l.drop i) = cnt6 l
 mn : ∀ x ∈ L, x.kind = 6 → 0 < P.threads.length
 i : i ≤ 64
 ms : P.main = 0 ∧ P.stmts = 0
theorem Dk.lnp {l : List De} {i : Nat} {P : Pg} {L : List Nm} {ce : Int} (h : Dk l i P L ce) : LnP P 1000 := by
 obtain ⟨⟨⟨a, b, c, d⟩, ⟨e, f, g, j, k⟩, m, n⟩, -, -, -, -, w, -⟩ := h
 refine ⟨fun q => ?_, by omega, by omega⟩
 rcases q with _ | _ | _ | _ | _ | _ | _ | _ | _ | q
 all_goals first | (simp only [lsP, List.getD_cons_zero, List.getD_cons_succ, List.length_map]; omega) | exact pgs_len _ (by omega)
theorem Dk.step {l : List De} {i : Nat} {P G : Pg} {L N : List Nm} {ce p0 : Int} {d : De} (h : Dk l i P L ce) (_U : i < l.length) (hd : l.drop i = d :: l.drop (i + 1)) (A : 1 ≤ d.kind ∧ d.kind ≤ 6) (w : dcl P L ce i d = .ok (G, N, p0)) : Dk l (i + 1) G N p0 := by
 obtain ⟨⟨⟨a, b, c, e⟩, ⟨f, g, j, k, m⟩, n, p⟩, M, H, D, K, V, J⟩ := h
 rw [hd, cnt6] at D
 cases F : lkN L d.name with
 | some x => rw [dcl_some F] at w; cases w
 | none =>
  have S : d.kind = 1 ∨ d.kind = 2 ∨ d.kind = 3 ∨ d.kind = 4 ∨ d.kind = 5 ∨ d.kind = 6 := by omega
  rcases S with A | A | A | A | A | A
  ·rw [dcl_k1 F A] at w
   split at w
   ·cases w
   cases w
   rw [A] at D
   refine ⟨by simp; omega, M, H, by simpa using D, fun x C => ?_, by omega, J⟩
   simp only [List.mem_append, List.mem_singleton] at C
   rcases C with C | rfl
   ·exact K x C
   ·intro E; simp [A] at E
  ·by_cases Q : d.num < 1 ∨ 256 < d.num ∨ 256 < ce + d.num
   ·rw [dcl_k2e F A Q] at w; cases w
   rw [dcl_k2 F A Q] at w
   split at w
   ·cases w
   cases w
   rw [A] at D
   refine ⟨by simp; omega, by omega, H, by simpa using D, fun x C => ?_, by omega, J⟩
   simp only [List.mem_append, List.mem_singleton] at C
   rcases C with C | rfl
   ·exact K x C
   ·intro E; simp [A] at E
  ·rw [dcl_k3 F A] at w
   split at w
   ·cases w
   cases w
   rw [A] at D
   refine ⟨by simp; omega, M, H, by simpa using D, fun x C => ?_, by omega, J⟩
   simp only [List.mem_append, List.mem_singleton] at C
   rcases C with C | rfl
   ·exact K x C
   ·intro E; simp [A] at E
  ·rw [dcl_k4 F A] at w
   split at w
   ·cases w
   cases w
   rw [A] at D
   refine ⟨by simp; omega, M, H, by simpa using D, fun x C => ?_, by omega, J⟩
   simp only [List.mem_append, List.mem_singleton] at C
   rcases C with C | rfl
   ·exact K x C
   ·intro E; simp [A] at E
  ·by_cases Q : d.num < 1 ∨ 16 < d.num
   ·rw [dcl_k5e F A Q] at w; cases w
   rw [dcl_k5 F A Q] at w
   split at w
   ·cases w
   cases w
   rw [A] at D
   refine ⟨by simp; omega, M, H, by simpa using D, fun x C => ?_, by omega, J⟩
   simp only [List.mem_append, List.mem_singleton] at C
   rcases C with C | rfl
   ·exact K x C
   ·intro E; simp [A] at E
  ·rw [dcl_k6 F A] at w
   split at w
   ·cases w
   cases w
   rw [A] at D
   refine ⟨by simp; omega, M, fun t R => ?_, by simp at D ⊢; omega, fun x _ _ => by simp, by omega, J⟩
   simp only [List.mem_append, List.mem_singleton] at R
   rcases R with R | rfl
   ·exact H t R
   ·exact ⟨rfl, rfl⟩
end Go.Proofs.YtgppcdfgdaggjaaGreatDoor
set_option maxRecDepth 100000
set_option maxHeartbeats 8000000
namespace Go.Proofs.YtgppcdfgdaggjaaGreatDoor
open Go.RowKit Go.Maps
theorem zero33 : ∃ i z, Tryz.prog.info? 33 = some i ∧ i.zero = some z ∧ z.cells = ([I 0] : List Value).toArray := infoZ (by kernel_rfl)
theorem deR_kind {nm : ByteArray → Bool} {d : De} (h : deR nm d = true) : (1 ≤ d.kind ∧ d.kind ≤ 6) ∧ (d.kind = 1 → -2147483648 ≤ d.num ∧ d.num ≤ 2147483647) ∧ St.sms d.body := by
 unfold deR at h
 simp only [Bool.and_eq_true] at h
 obtain ⟨-, g, j⟩ := h
 have A : d.body.length = 0 → St.sms d.body := fun e => by
  rw [List.length_eq_zero_iff.1 e]
  unfold St.sms
  trivial
 by_cases w : d.kind = 1
 ·rw [if_pos w] at j
  simp at g j
  exact ⟨by omega, fun _ => by omega, A (by rcases g with g | g; omega; simp [g])⟩
 rw [if_neg w] at j
 by_cases D : d.kind = 2 ∨ d.kind = 5
 ·simp at g
  exact ⟨by omega, fun e => absurd e w, A (by rcases g with g | g; omega; simp [g])⟩
 rw [if_neg D] at j
 by_cases k3 : d.kind = 3 ∨ d.kind = 4
 ·simp at g
  exact ⟨by omega, fun e => absurd e w, A (by rcases g with g | g; omega; simp [g])⟩
 rw [if_neg k3] at j
 by_cases C : d.kind = 6
 ·rw [if_pos C, Bool.and_eq_true] at j
  exact ⟨by omega, fun e => absurd e w, stsR_sm2 d.body j.2⟩
 ·rw [if_neg C] at j
  cases j
theorem pcC_one (P : Pg) {P0 : Pg} {B : Nat} {w : World} {vs : List Value} (h : Gs B w vs (lsP P0)) : (pcC P vs).length = 13 ∧ ∀ v ∈ pcC P vs, v.oneCell' = true := by
 have j : ∀ k, (vs.getD k nilV).oneCell' = true := fun k => by
  by_cases A : k < 9
  ·obtain ⟨a, cap, C, -⟩ := (h.gr k A).form
   rw [C]
   rfl
  ·rw [List.getD_eq_getElem?_getD, List.getElem?_eq_none (by rw [h.len.1]; omega)]
   rfl
 refine ⟨rfl, fun v g => ?_⟩
 simp only [pcC, List.mem_cons, List.not_mem_nil, or_false] at g
 rcases g with rfl | rfl | rfl | rfl | rfl | rfl | rfl | rfl | rfl | rfl | rfl | rfl | rfl
 all_goals first | rfl | exact j _
theorem dcls_cons (P : Pg) (L : List Nm) (ce : Int) (i : Nat) (d : De) (r : List De) : dcls P L ce i (d :: r) = (match dcl P L ce i d with | .error e => .error e | .ok q => dcls q.1 q.2.1 q.2.2 (i + 1) r) := by
 rw [dcls]
 cases dcl P L ce i d with
 | error e => rfl
 | ok q => rfl
theorem find_tail {nmf : ByteArray → Bool} {w W : World} {l : List De} {a : Option Addr} {cap n7 F g h B n0 n5 n6 : Nat} {P : Pg} {vs : List Value} {L : List Nm} {ce : Int} {R : Pg × (Int × Int) × Int} {v0 v1 v2 v3 v4 v5 v6 v7 v8 v9 u0 u1 u2 u3 u4 u5 u6 u7 u8 u9 x0 x1 x2 x3 x4 x5 x6 x7 x8 x9 y0 y1 y2 y3 y4 y5 y6 y7 y8 y9 vA vB vC vD vE vF vG vH vI vJ vK vL vM vN vP vQ vR vS vT vU vV vW vX vY vZ f7 d9 e8 f4 e7 : Value} (HN : Hid (l.length = n7)) (HZ : Hid (w.heap.size = n0 ∧ n0 + 1 = n5 ∧ n5 + 1 = n6)) (f5 : Hid (F < B ∧ g < B ∧ h < B ∧ n6 < g ∧ g < h ∧ h < F ∧ w.heap.size ≤ g))
  (H : Hid (F3 w W n0 n5 n6 zPgC 0 0 0 ∧ Fi W F g h (pcC P vs) ⟨L, ce, 0, 0, 0⟩ ∧ Gs B W vs (lsP P) ∧ B ≤ W.heap.size)) (U : Hid (Dk l n7 P L ce)) (e4 : Hid (desR nmf l = true)) (f6 : Hid (DesL (fun _ => True) w a l)) (d6 : Roomy n7 cap)
  (HR : Hid (R = (match lkN L wMain with | none => (zPg, (0, 0), 133) | some x => if x.kind ≠ 6 then (zPg, (0, 0), 133) else match bods L 0 l with | .error e => (zPg, e.1, e.2) | .ok (bs, n) => ({ P with main := x.slot, threads := putTh P.threads bs, stmts := n }, (0, 0), 0)))) :
  Code.wp Tryz.prog (dropS 5 (Tryz.f14.body.getD .skip)) (bodyPostD Tryz.prog Tryz.f14 (FOk w R)) ⟨#[.slice a n7 cap, v0, Pt n0, Pt n5, Pt n6, v1, Pt F, v2, v3, v4, v5, v6, v7, v8, v9, u0, u1, u2, u3, u4, u5, u6, u7, u8, u9, x0, x1, x2, x3, x4, x5, x6, x7, x8, x9, y0, y1, y2, y3, y4, y5, y6, y7, y8, y9, vA, vB, vC, vD, vE, vF, vG, vH, vI, vJ, vK, vL, vM, vN, vP, vQ, vR, vS, vT, vU, vV, vW, vX, vY, vZ, f7, d9, e8, f4, e7], dfr35 n0 n5 n6⟩ W := by
 obtain ⟨i4, g1, f8, d7, f2⟩ := zero104i
 obtain ⟨e0, f3, d8⟩ := under30
 obtain ⟨r, hr⟩ : ∃ r, lkN L wMain = r := ⟨_, rfl⟩
 have A := HR.out
 rw [hr] at A
 have M := O A
 have b8 := O hr
 have e1 := O d6
 clear A hr HR d6
 have b6 := look_nm H.out.2.1.m ⟨#[109, 97, 105, 110]⟩
 rw [lkV_eq, show lkN L ⟨#[109, 97, 105, 110]⟩ = r from b8.out] at b6
 have c13 := H.out.2.1.c13
 obtain ⟨bM, a8⟩ : ∃ b, W.heap.size = b := ⟨_, rfl⟩
 conv in (dropS _ _) => whnf
 refine wk fun KK b9 => ?_
 go_wp2_with (first
  | ((with_reducible refine at1 9 (.alloc 104) ?_); refine wpList_alloc_blk f8 d7 f2 rfl rfl bM a8 ?_; intro W1 k1 b1 e6; have K1 := O k1; have B1 := O b1; clear k1 b1)
  | ((with_reducible refine at0 (.store 104 _ _) ?_); refine wpList_store_ch info104 rfl (.tmp 9) (.tmp 41) rfl bM [I (lkK r), I (lkS r)] _ rfl rfl K1.out rfl ⟨rfl, by simp [Value.oneCell']⟩ ?_; intro W2 k2 c2; have K2 := O k2; have V := O (c2.below (by rw [a8]; exact Nat.le_refl _) B1.out); clear k2 c2 K1 B1 e6)
  | fail)
 refine b9.out _ _ ?_
 clear b9 KK b6 c13 a8
 have D := O (And.intro (H.out.1.below V.out) (And.intro (H.out.2.1.up V.out) (And.intro (H.out.2.2.1.below V.out) (Nat.le_trans H.out.2.2.2 V.out.size))))
 clear H V
 have m0 : W2.cell? ⟨bM, 0, none⟩ = some (.int .i64 (lkK r)) := K2.out.cell 0
 have m1 : W2.cell? ⟨bM, 1, none⟩ = some (.int .i64 (lkS r)) := K2.out.cell 1
 rcases r with _ | ⟨xt, xk, xs⟩
 ·go_wp2_with fail
  rw [M.out]
  exact find_gone (f := ((0, 0), 133)) D.out.1 rfl rfl rfl rfl
 simp only [lkK, lkS] at m0 m1
 by_cases hk : xk = 6
 rotate_left
 ·have g2 : ¬ (xk : Int) = 6 := by omega
  have A := M.out
  simp only [ne_eq, hk, not_false_iff, if_true] at A
  have a1 := O A
  clear A M
  go_wp2_with fail
  rw [a1.out]
  exact find_gone (f := ((0, 0), 133)) D.out.1 rfl rfl rfl rfl
 subst hk
 have A := M.out
 simp only [ne_eq, not_true, if_false] at A
 have a1 := O A
 have e2 : Hid (∀ n : Nat, (pcC { P with main := xs, stmts := n } vs).length = 13 ∧ ∀ v ∈ pcC { P with main := xs, stmts := n } vs, v.oneCell' = true) := O fun n => pcC_one _ D.out.2.2.1
 have h0 : 0 < P.threads.length := U.out.mn _ (List.mem_of_find?_eq_some b8.out) rfl
 have f0 := O h0
 clear A M h0
 go_wp2_with (first
  | ((with_reducible refine at0 (.store 3 (.tmp 58) _) ?_); refine wpList_store_one info3 rfl (.tmp 58) (.tmp 55) rfl F 6 101 (I xs) _ rfl rfl rfl rfl D.out.2.1.f (by simp [pcC, pfT]) ?_; intro K k3 c3; have J := O (And.intro k3 c3); clear k3 c3)
  | fail)
 have C := O f5.out
 have G := O HZ.out
 have d3 := D.out.2.1.fg
 have b4 := D.out.2.1.fh
 have d5 : Hid (Fi K F g h (pcC { P with main := xs } vs) ⟨L, ce, 0, 0, 0⟩) := O (D.out.2.1.pc rfl J.out.1 (J.out.2.hpc (fun e => d3 e.symm)) (J.out.2.hpc (fun e => b4 e.symm)))
 have a0 : Hid (Gs B K vs (lsP { P with main := xs })) := O (D.out.2.2.1.ch J.out.2 (.inl C.out.1))
 have H3 := O (D.out.1.ch J.out.2 (by have := C.out; have := G.out; omega) (by have := C.out; omega))
 have g3 : Hid (B ≤ K.heap.size) := O (by rw [J.out.2.size]; exact D.out.2.2.2)
 clear D J m0 m1 K2 d3 b4
 obtain ⟨gt, g4, C0, a4, b5, d4, a3, a6, d0⟩ := grow_blk (a0.out.gr 3 (by decide)) (by simpa [lsP] using f0.out) (by decide)
 have d2 : ((lsP { P with main := xs }).getD 3 []).length = P.threads.length := by simp [lsP]
 rw [d2] at a4 a3 a6
 have a5 := O a4
 have f1 := O a3
 have S : Hid (Bo w K B F g h gt { P with main := xs } vs ⟨L, ce, 0, 0, 0⟩ C0 P.threads K) := O ⟨KpB.refl _ _ _ _, d5.out, d4, fun j x hj => by
  obtain ⟨cs, h1, h2⟩ := d0 j (cT x) (by simp [lsP, hj])
  have Z := (U.out.th x (List.mem_of_getElem? hj)).1
  refine ⟨cs, ⟨none, 0, ?_, ?_, ?_⟩, h2⟩
  ·rw [h1.1, Z]
   rfl
  ·rw [Z]
   exact ⟨Nat.le_refl _, by decide⟩
  ·rw [Z]
   unfold StsL
   trivial, a6, fun k e3 e9 => ⟨a0.out.gr k e3, a0.out.ap 3 k gt (fun e => e9 e.symm) (by rw [a5.out]; rfl)⟩, H3.out.b, ⟨C.out.1, C.out.2.1, C.out.2.2.1, b5⟩, by have := C.out; omega, by have := C.out; omega⟩
 clear a4 a3 b5 d4 a6 d0 d2 a0 d5
 have b7 : l.drop n7 = [] := by rw [← HN.out]; exact List.drop_length
 have h6 := U.out.c6
 rw [b7] at h6
 simp only [cnt6, Nat.add_zero] at h6
 have a2 := pbod_any l a cap (by rw [HN.out]; exact e1.out) f6.out S.out a5.out rfl ⟨rfl, Nat.zero_le _⟩ (fun d hd => (deR_kind (List.all_eq_true.1 e4.out d hd)).2.2) ⟨h6, by have h1 := U.out.ln.1.2.2.2; have h2 := U.out.i; omega⟩
 rw [HN.out] at a2
 refine a2.mono ?_
 clear a2 b7 h6
 rintro e W4 ⟨a9, hm⟩
 have H4 := O (H3.out.kpB a9 (by have := C.out; have := G.out; omega) (by have := C.out; have := G.out; omega) (by have := C.out; have := G.out; omega) (by have := C.out; omega))
 clear a9 H3 S
 obtain ⟨rb, d1⟩ : ∃ r, bods L 0 l = r := ⟨_, rfl⟩
 have A := a1.out
 simp only at hm
 rw [d1] at hm A
 have c9 := O A
 clear A a1 d1
 rcases rb with er | ⟨bs, n⟩
 ·obtain rfl := hm
  have A := c9.out
  simp only at A
  rw [A]
  exact find_gone H4.out rfl rfl rfl rfl
 obtain ⟨rfl, mo, C4, a7⟩ := hm
 have S := O a7
 have c16 := a7.f.c16
 clear a7
 go_wp2_with (first
  | ((with_reducible refine at0 (.store 3 (.tmp 69) _) ?_); refine wpList_store_one info3 rfl (.tmp 69) (.tmp 66) rfl F 7 101 (I n) _ rfl rfl rfl rfl S.out.f.f (by simp [pcC, pfT]) ?_; intro W5 k5 c5; have K5 := O (And.intro k5 c5); have e5 : Hid (W5.rangeAt F 0 (pcC { P with main := xs, stmts := n } vs)) := O (Blk.range (pre := []) (mid := pcC { P with main := xs, stmts := n } vs) (post := pfT g h ⟨L, ce, n, 0, mo⟩) k5 rfl); have Q := O (H4.out.ch c5 (by have := C.out; have := G.out; omega) (by have := C.out; omega)); clear k5 c5)
  | ((with_reducible refine at1 73 (.load 30 _) ?_); refine wpList_load_mid rfl 30 (.tmp 72) rfl F 0 rfl (pcC { P with main := xs, stmts := n } vs) e0 e5.out f3 d8 info30 ?_)
  | ((with_reducible refine at0 (.store 30 (.tmp 2) _) ?_); refine wpList_store_ch info30 rfl (.tmp 2) (.tmp 73) rfl n0 (pcC { P with main := xs, stmts := n } vs) _ rfl rfl Q.out.l rfl (e2.out n) ?_; intro W6 k6 c6; have Y := O (And.intro k6 c6); clear k6 c6)
  | ((with_reducible refine at0 (.store 32 (.tmp 3) _) ?_); refine wpList_store_ch info32a rfl (.tmp 3) (.tmp 74) rfl n5 [I 0, I 0] _ rfl rfl (Y.out.2.blk (by have := G.out; omega) Q.out.p) rfl (two_one 0 0) ?_; intro W7 k7 c7; have N := O (And.intro k7 c7); clear k7 c7)
  | ((with_reducible refine at0 (.store 33 (.tmp 4) _) ?_); refine wpList_store_one info33 rfl (.tmp 4) (.const (I 0)) rfl n6 0 33 (I 0) _ rfl rfl rfl rfl (N.out.2.blk (by have := G.out; omega) (Y.out.2.blk (by have := G.out; omega) Q.out.e)) (by simp) ?_; intro W8 k8 c8; have X := O (And.intro k8 c8); clear k8 c8)
  | fail)
 have A := c9.out
 rw [A]
 have hz := G.out
 have hl := C.out
 have H8 : F3 w W8 n0 n5 n6 (pcC { P with main := xs, stmts := n } vs) 0 0 0 := ⟨X.out.2.blk (by omega) (N.out.2.blk (by omega) Y.out.1), rfl, X.out.2.blk (by omega) N.out.1, X.out.1, X.out.2.below (by omega) (N.out.2.below (by omega) (Y.out.2.below (by omega) Q.out.b)), Q.out.lt⟩
 have hp := pgL_of S.out a5.out (by rw [putTh_len]) f1.out
 have E := (hp.keep (w' := W8) fun b o u Z hu => by
  have f9 : B ≤ b := Z
  rw [X.out.2.cellF (by omega), N.out.2.cellF (by omega), Y.out.2.cellF (by omega), K5.out.2.cellF (by omega)]
  exact hu).weak (ok' := fun c => w.heap.size ≤ c) fun c hc => by have g5 : B ≤ c := hc; omega
 exact find_done H8 ⟨_, _, _, _, _, _, _, _, _, rfl, ⟨E.vars, E.arrays, E.chans, E.threads, E.nv, E.na, E.nm, E.nc, E.nh⟩⟩ rfl rfl rfl rfl
theorem pfind_all {nmf : ByteArray → Bool} (l : List De) (a : Option Addr) (cap : Nat) (w : World) (d4 : Roomy l.length cap) (d9 : DesL (fun _ => True) w a l) (b5 : ∀ W, Below w.heap.size w W → Calls Tryz.prog 34 #[.slice a l.length cap] W fun e w' => e = .returned (I (if desR nmf l = true then 0 else 2)) ∧ Below W.heap.size W w') :
  Calls Tryz.prog 14 #[.slice a l.length cap] w (FOk w (if desR nmf l = true then findR l else (zPg, (0, 0), 2))) := by
 have j7 := makeFn
 obtain ⟨k8, l3, i5, i1, i3⟩ := zero30
 obtain ⟨k0, j2, f5, g1, g8⟩ := zero32
 obtain ⟨j6, l2, g3, h6, g7⟩ := zero33
 obtain ⟨i9, j4, f7, g4, g6⟩ := zero46d
 obtain ⟨h0, e5, e3⟩ := under46d
 obtain ⟨j1, j9, j0⟩ := under30
 obtain ⟨i4, y4, l4, a7, j8⟩ := zero104i
 obtain ⟨E, hN⟩ : ∃ E, l.length = E := ⟨_, rfl⟩
 rw [hN] at d4 ⊢
 simp only [hN] at b5
 have Q := O hN
 have b9 := O fun _ : True => d4
 have f3 := O d9
 have d7 := O b5
 obtain ⟨R, j⟩ : ∃ R, (if desR nmf l = true then findR l else (zPg, (0, 0), 2)) = R := ⟨_, rfl⟩
 rw [j]
 have HR := O j
 clear hN d4 d9 b5 j
 obtain ⟨C, h2⟩ : ∃ z, w.heap.size = z := ⟨_, rfl⟩
 go_enter_defers Tryz.func14, Tryz.ntmps14
 refine wk fun M A => ?_
 go_wp2_with (first
  | ((with_reducible refine at1 2 (.alloc 30) ?_); refine wpList_alloc_blk i5 i1 i3 rfl rfl C h2 ?_; intro W1 k1 b1 e7; have K1 := O k1; have B1 := O b1; clear k1 b1)
  | ((with_reducible refine at1 3 (.alloc 32) ?_); refine wpList_alloc_blk f5 g1 g8 rfl rfl (C + 1) e7 ?_; intro W2 k2 b2 s2; have K2 := O k2; have B2 := O b2; clear k2 b2)
  | ((with_reducible refine at1 4 (.alloc 33) ?_); refine wpList_alloc_blk g3 h6 g7 rfl rfl (C + 1 + 1) s2 ?_; intro W3 k3 b3 s3; have K3 := O k3; have B3 := O b3; clear k3 b3)
  | fail)
 refine A.out _ _ ?_
 clear A M
 obtain ⟨X, d1⟩ : ∃ z, C + 1 = z := ⟨_, rfl⟩
 rw [d1] at K2 K3 s2 s3 ⊢
 obtain ⟨U, a7⟩ : ∃ z, X + 1 = z := ⟨_, rfl⟩
 rw [a7] at K3 s3 ⊢
 have G : Hid (w.heap.size = C ∧ C + 1 = X ∧ X + 1 = U) := O ⟨h2, d1, a7⟩
 have b6 := B1.out.trans (B2.out.mono B1.out.size)
 have e9 := b6.trans (B3.out.mono b6.size)
 have H3 : Hid (F3 w W3 C X U zPgC 0 0 0) := O ⟨(K1.out.below B2.out).below B3.out, rfl, K2.out.below B3.out, K3.out, e9, by omega⟩
 clear K1 K2 K3 B1 B2 B3 e7 s2 s3 b6 e9 h2 d1 a7
 refine wk fun M A => ?_
 go_wp2_with fail
 refine (d7.out W3 H3.out.b).mono ?_
 rintro e H ⟨rfl, hb⟩
 have N := O (H3.out.below hb)
 clear hb H3 d7
 by_cases a0 : desR nmf l = true
 rotate_left
 ·have j := HR.out
  rw [if_neg a0] at j
  have a5 := O j.symm
  rw [if_neg a0]
  clear HR j
  go_wp2_with (first
   | ((with_reducible refine at0 (.store 30 (.tmp 2) _) ?_); refine wpList_store_ch info30 rfl (.tmp 2) (.tmp 15) rfl C zPgC _ rfl rfl N.out.l rfl ⟨rfl, by decide⟩ ?_; intro K k5 c5; have K5 := O (And.intro k5 c5); clear k5 c5)
   | ((with_reducible refine at0 (.store 32 (.tmp 3) _) ?_); refine wpList_store_ch info32a rfl (.tmp 3) (.tmp 16) rfl X [I 0, I 0] _ rfl rfl (K5.out.2.blk (by have := G.out; omega) N.out.p) rfl (two_one 0 0) ?_; intro W6 k6 c6; have K6 := O (And.intro k6 c6); clear k6 c6)
   | ((with_reducible refine at0 (.store 33 (.tmp 4) _) ?_); refine wpList_store_one info33 rfl (.tmp 4) (.tmp 17) rfl U 0 33 (I 2) _ rfl rfl rfl rfl (K6.out.2.blk (by have := G.out; omega) (K5.out.2.blk (by have := G.out; omega) N.out.e)) (by simp) ?_; intro V k7 c7; have S := O (And.intro k7 c7); clear k7 c7)
   | fail)
  rw [a5.out]
  have hz := G.out
  have H7 : F3 w V C X U zPgC 0 0 2 := ⟨S.out.2.blk (by omega) (K6.out.2.blk (by omega) K5.out.1), rfl, S.out.2.blk (by omega) K6.out.1, S.out.1, S.out.2.below (by omega) (K6.out.2.below (by omega) (K5.out.2.below (by omega) N.out.b)), N.out.lt⟩
  exact find_early H7 (pgRL_zero _ _) rfl rfl rfl rfl
 have j := HR.out
 rw [if_pos a0] at j
 have a5 := O j.symm
 rw [if_pos a0]
 have e6 := O a0
 clear HR j a0
 go_wp2_with fail
 refine A.out _ _ ?_
 clear A M
 refine wk fun M A => ?_
 go_wp2_with fail
 refine A.out _ _ ?_
 clear A M
 obtain ⟨g, hg⟩ : ∃ g, H.heap.size = g := ⟨_, rfl⟩
 obtain ⟨K, a8⟩ : ∃ W, H.alloc (.map #[] 0) = W := ⟨_, rfl⟩
 have f8 : (Instr.makeMap 97 none).run Tryz.prog H = .ok (.map (some g)) K := by
  rw [← hg, ← a8]
  kernel_rfl
 have D : Hid (Below H.heap.size H K ∧ MpN K g [] ∧ g < K.heap.size) := O (by
  have h1 : K.heap[g]? = some (.map #[] 0) := by rw [← a8, ← hg]; exact World.alloc_heap_new _ _
  exact ⟨by rw [← a8]; exact (Below.refl _ H).alloc (Nat.le_refl _) _, ⟨[], 0, h1, rfl⟩, (Array.getElem?_eq_some_iff.1 h1).1⟩)
 have HG : Hid (H.heap.size = g) := O hg
 clear hg a8
 refine wk fun M A => ?_
 go_wp2_with fail
 refine (pwants_any K).mono ?_
 rintro e W6 ⟨h, rfl, hh, c9, c8⟩
 have H6 := O ((N.out.below D.out.1).below c8)
 have Y : Hid (MpN W6 g [] ∧ W6.heap[h]? = some (.map wantEs.toArray 10) ∧ h < W6.heap.size ∧ g < h ∧ H.heap.size ≤ g) := O ⟨D.out.2.1.of (c8.block _ D.out.2.2), c9, (Array.getElem?_eq_some_iff.1 c9).1, by have := D.out.2.2; omega, Nat.le_of_eq HG.out⟩
 have f2 : Hid (U < g) := O (by have h1 := N.out.e.lt; have h3 := HG.out; omega)
 clear f8 D HG c9 c8 hh N
 obtain ⟨F, hF⟩ : ∃ b, W6.heap.size = b := ⟨_, rfl⟩
 go_wp2_with (first
  | ((with_reducible refine at1 22 (.box 101 _) ?_); refine wpList_box_blk rfl (.tmp 21) rfl (pcC zPg (List.replicate 9 nilV) ++ pfT g h ⟨[], 0, 0, 0, 0⟩) rfl F hF ?_; intro V k7 b7 s7; have S := O k7; have B7 := O b7; clear k7 b7)
  | fail)
 refine A.out _ _ ?_
 clear A M
 obtain ⟨B, hB⟩ : ∃ B, V.heap.size = B := ⟨_, rfl⟩
 have a4 : Hid (F < B ∧ g < B ∧ h < B ∧ U < g ∧ g < h ∧ h < F ∧ w.heap.size ≤ g) := O (by
  have h1 := Y.out
  have h3 := f2.out
  have h4 := G.out
  have h5 := B7.out.size
  omega)
 have e0 : Hid (Fi V F g h (pcC zPg (List.replicate 9 nilV)) ⟨[], 0, 0, 0, 0⟩) := O ⟨rfl, S.out, Y.out.1.of (B7.out.block _ (by have := Y.out; omega)), (B7.out.block _ Y.out.2.2.1).trans Y.out.2.1, by have := a4.out; omega, by have := a4.out; omega, by have := a4.out; omega⟩
 have H7 := O (H6.out.below B7.out)
 have e4 : Hid (Gs B V (List.replicate 9 nilV) (lsP zPg)) := O (Gs.nil B V)
 have f0 : Hid (B ≤ V.heap.size) := O (Nat.le_of_eq hB.symm)
 clear S B7 s7 hF Y f2 H6 hB
 refine wk fun M A => ?_
 go_wp2_with fail
 go_loopg [25] E (fun x iv wr => ∃ (i : Nat) (P : Pg) (vs : List Value) (L : List Nm) (ce : Int), i ≤ E ∧ x = E - i ∧ iv = I i ∧ Hid (F3 w wr C X U zPgC 0 0 0 ∧ Fi wr F g h (pcC P vs) ⟨L, ce, 0, 0, 0⟩ ∧ Gs B wr vs (lsP P) ∧ B ≤ wr.heap.size) ∧ Hid (Dk l i P L ce) ∧ Hid (dcls zPg [] 0 0 l = dcls P L ce i (l.drop i)))
 case atStart => exact ⟨0, zPg, _, [], 0, Nat.zero_le _, rfl, rfl, O ⟨H7.out, e0.out, e4.out, f0.out⟩, O ⟨by decide, by decide, (fun t ht => by cases ht), (by rw [List.drop_zero]; simp [zPg]), (fun x hx => by cases hx), by decide, rfl, rfl⟩, O (by simp)⟩
 case round =>
  clear H7 e0 e4 f0
  obtain ⟨i, P, vs, L, ce, hi, rfl, rfl, Z, HD, b8⟩ := hrel
  by_cases a3 : i < E
  ·have k9 : (i : Int) < (E : Int) := by omega
   have j5 : (0 : Int) ≤ (i : Int) := by omega
   have g5 : Hid (wrap64 ((i : Int) + 1) = ((i + 1 : Nat) : Int)) := O (by
    have h1 := (b9.out trivial).1
    have h2 := (b9.out trivial).2
    have := IntWalk.wrap64_in ((i : Int) + 1) (by omega)
    rw [this]
    omega)
   obtain ⟨b2, d6, dc, rfl, -, d5, h7⟩ := f3.out i (by rw [Q.out]; exact a3)
   have d8 : l.getD i default ∈ l := by
    rw [List.getD_eq_getElem?_getD, List.getElem?_eq_getElem (by rw [Q.out]; exact a3)]
    exact List.getElem_mem _
   have d3 : l.drop i = l.getD i default :: l.drop (i + 1) := by
    rw [List.drop_eq_getElem_cons (by rw [Q.out]; exact a3), List.getD_eq_getElem?_getD, List.getElem?_eq_getElem (by rw [Q.out]; exact a3)]
    rfl
   have J := b8.out
   rw [d3, dcls_cons] at J
   have f4 := deR_kind (List.all_eq_true.1 e6.out _ d8)
   generalize l.getD i default = d at *
   obtain ⟨ba, a2, rfl, -, -⟩ := h7
   obtain ⟨BN, e1⟩ : ∃ n, d.body.length = n := ⟨_, rfl⟩
   rw [e1] at d5
   have g2 : Hid (wr.rangeAt b2 (d6 + i * 6) (dcCs d (.slice ba BN a2))) := O fun t v hv => below_cl Z.out.1.b _ _ _ (World.cellF_cell (by simpa using d5 t v hv))
   have i2 := O d3
   have d0 := O f4
   have f1 := O J
   obtain ⟨bA, e2⟩ : ∃ b, wr.heap.size = b := ⟨_, rfl⟩
   have f6 : Hid (wr.heap.size = bA) := O e2
   clear J f4 d5 d3 d8 b8 e1
   go_wp2_with (first
    | ((with_reducible refine at1 29 (.load 46 _) ?_); refine wpList_load_mid rfl 46 (.tmp 28) rfl b2 (d6 + i * 6) rfl (dcCs d (.slice ba BN a2)) h0 g2.out e5 e3 info46d ?_)
    | ((with_reducible refine at1 8 (.alloc 46) ?_); refine wpList_alloc_blk f7 g4 g6 rfl rfl bA e2 ?_; intro H k4 b4 s4; have K4 := O k4; have B4 := O b4; clear k4 b4)
    | ((with_reducible refine at0 (.store 46 (.tmp 8) _) ?_); refine wpList_store_ch info46d rfl (.tmp 8) (.tmp 29) rfl bA (dcCs d (.slice ba BN a2)) _ rfl rfl K4.out rfl (dcCs_one d rfl) ?_; intro K k5 c5; have D := O (c5.below (by rw [f6.out]; exact Nat.le_refl _) B4.out); have f9 := O k5; clear k5 c5 K4 B4 s4)
    | ((with_reducible refine at1 32 (.load 46 _) ?_); refine wpList_load_blk e5 e3 info46d rfl (.tmp 8) rfl bA (dcCs d (.slice ba BN a2)) rfl f9 rfl ?_)
    | fail)
   have a6 := O (And.intro (Z.out.1.below D.out) (And.intro (Z.out.2.1.up D.out) (And.intro (Z.out.2.2.1.below D.out) (Nat.le_trans Z.out.2.2.2 D.out.size))))
   have a1 := a4.out
   refine (pdec_any d (.slice ba BN a2) i a6.out.2.1 a6.out.2.2.1 ⟨a1.1, a1.2.1, a1.2.2.1, a6.out.2.2.2⟩ rfl d0.out.1 d0.out.2.1 HD.out.ce (by have := HD.out.i; omega) HD.out.lnp).mono ?_
   rintro e W8 ⟨d2, hm⟩
   have a9 := O a1
   clear a1
   have H8 := O (a6.out.1.kpB d2 (by have := a9.out; have := G.out; omega) (by have := a9.out; have := G.out; omega) (by have := a9.out; have := G.out; omega) (by have := a9.out; omega))
   have i6 := O (Nat.le_trans a6.out.2.2.2 d2.size)
   obtain ⟨r, hr⟩ : ∃ r, dcl P L ce i d = r := ⟨_, rfl⟩
   have J := f1.out
   rw [hr] at hm J
   rcases r with er | ⟨P', L', i8⟩
   ·obtain rfl := hm
    have j := a5.out
    unfold findR at j
    rw [J] at j
    rw [j]
    exact find_gone H8.out rfl rfl rfl rfl
   obtain ⟨rfl, i0, hf, e8⟩ := hm
   have h8 := O (And.intro H8.out (And.intro hf (And.intro e8 i6.out)))
   have i7 := O (HD.out.step (by rw [Q.out]; exact a3) i2.out d0.out.1 hr)
   have h9 := O J
   clear d2 hf e8 hr J f1
   go_wp2_with fail
   go_roundg (E - (i + 1))
   case measure => omega
   case rel => exact ⟨i + 1, P', i0, L', i8, by omega, rfl, congrArg (Value.int .i64) g5.out, h8, i7, h9⟩
  ·obtain rfl : i = E := by omega
   have j3 : ¬ (i : Int) < (i : Int) := by omega
   have hQ := b8.out
   rw [← Q.out, List.drop_length, dcls] at hQ
   have j := a5.out
   unfold findR at j
   rw [hQ] at j
   have g9 := O j
   clear hQ j a5
   go_wp2_with fail
   refine A.out _ _ ?_
   exact find_tail Q G a4 Z HD e6 f3 (b9.out trivial) g9
end Go.Proofs.YtgppcdfgdaggjaaGreatDoor
set_option maxRecDepth 100000
set_option maxHeartbeats 8000000
namespace Go.Proofs.YtgppcdfgdaggjaaGreatDoor
open Go.RowKit Go.Maps
theorem ptext_any (nmf : ByteArray → Bool) (s : ByteArray) (w : World) (hE : ErrR w) (hO : Ops w) (d0 : ∀ (W : World) (a : Option Addr) (cap : Nat), bL w W → Roomy (parseR s).1.length cap → DesL (fun _ => True) W a (parseR s).1 → Calls Tryz.prog 34 #[.slice a (parseR s).1.length cap] W fun e w' => e = .returned (I (if desR nmf (parseR s).1 = true then 0 else 2)) ∧ bL W w') :
  Calls Tryz.prog 10 #[.string s] w (FOk w (textR (fun l => if desR nmf l = true then findR l else (zPg, (0, 0), 2)) s)) := by
 obtain ⟨i3, z3, f8, f4, f6⟩ := zero30
 obtain ⟨i2, z2, d8, d5, e1⟩ := zero32
 obtain ⟨h0, e4, d1⟩ := under30
 obtain ⟨g7, e6, d6⟩ := under32a
 have g4 : Tryz.prog.follows .mixedOrders = true := by kernel_rfl
 obtain ⟨R, g⟩ := eX (textR (fun l => if desR nmf l = true then findR l else (zPg, (0, 0), 2)) s)
 rw [g]
 unfold textR at g
 have N := O g
 have c9 := O d0
 have b8 := O (And.intro hE hO)
 clear g d0 hE hO
 go_in
 refine wk fun KK U => ?_
 go_wp2_with (first
  | (with_reducible refine at1 2 (.alloc 30) ?_; refine wpList_alloc_blk f8 f4 f6 rfl rfl w.heap.size rfl ?_; intro W1 k1 b1 d9; have K1 := O k1; have B1 := O b1; clear k1 b1)
  | (with_reducible refine at1 3 (.alloc 32) ?_; refine wpList_alloc_blk d8 d5 e1 rfl rfl (w.heap.size + 1) d9 ?_; intro W2 k2 b2 s2; have K2 := O k2; have B2 := O b2; clear k2 b2)
 )
 refine U.out _ _ ?_
 clear U KK
 have a1 := B1.out.trans (B2.out.mono B1.out.size)
 have hp := parse_any s W2 (b8.out.1.below a1 (by have := b8.out.1.1; omega)) (b8.out.2.below a1)
 unfold PaOk at hp
 obtain ⟨b5, hZ⟩ := eX (parseR s)
 rw [hZ] at hp N c9
 obtain ⟨l, ⟨G, pc⟩, er⟩ := b5
 have b9 := O a1
 have e2 := O (K1.out.below B2.out)
 have d7 := O K2.out
 clear a1 hZ K1 K2 B1 B2
 refine wk fun KK U => ?_
 go_wp2_with fail
 refine hp.mono ?_
 clear hp
 rintro e D ⟨j, a, cap, rfl, e8, e7⟩
 have f0 := j.size
 have d4 : Hid (w.heap.size + 2 ≤ D.heap.size) := O (by omega)
 have a5 := O (e2.out.below j)
 have a4 := O (d7.out.below j)
 have d3 := O (b9.out.trans (j.mono b9.out.size))
 have a9 := O (DesL.weak (ok' := fun _ => True) (fun _ _ => trivial) e7.des)
 have a7 := O fun _ : True => e8
 clear j e2 d7 b9 e7 e8
 obtain ⟨a3, hN⟩ : ∃ a3, l.length = a3 := ⟨_, rfl⟩
 have HN : Hid (l.length = a3) := O hN
 try simp only at a7
 try simp only at a9
 simp only [hN]
 clear hN
 go_wp2_with (first
  | (with_reducible refine at1 6 (.alloc 32) ?_; refine wpList_alloc_blk d8 d5 e1 rfl rfl D.heap.size rfl ?_; intro W4 k4 b4 s4; have K4 := O k4; have B4 := O b4; clear k4 b4)
  | (with_reducible refine s0 32 ?_; refine wpList_store_ch info32a rfl (.tmp 6) (.tmp 12) rfl D.heap.size [I G, I pc] _ rfl rfl K4.out rfl (two_one G pc) ?_; intro S k5 c5; have J := O (And.intro k5 c5); clear k5 c5)
 )
 refine U.out _ _ ?_
 clear U KK
 have f1 := a5.out.lt
 have g2 := a4.out.lt
 have Z := O (J.out.2.blk (by omega) (a5.out.below B4.out))
 have X := O (J.out.2.blk (by omega) (a4.out.below B4.out))
 have a0 : Hid (Below D.heap.size D S) := O (J.out.2.below rl B4.out)
 have E := O (d3.out.trans (a0.out.mono (by omega)))
 have a2 := O (DesL.keep (fun b o u _ K => below_cell a0.out b o u K) a9.out)
 have a6 := O J.out.1
 clear a5 a4 d3 K4 B4 J a9 f1 g2 s4 f0 d9 s2
 by_cases he : er = 0
 rotate_left
 ·have g := N.out
  rw [if_pos he] at g
  have g3 := O g
  clear N g
  go_wp2_with fail
  obtain ⟨F, H⟩ := eX (S.drew)
  have f5 : Hid (Blk F w.heap.size 30 zPgC) := O (by rw [← H]; exact Z.out.drew)
  have f2 : Hid (Blk F (w.heap.size + 1) 32 [I 0, I 0]) := O (by rw [← H]; exact X.out.drew)
  have d2 : Hid (Blk F D.heap.size 32 [I G, I pc]) := O (by rw [← H]; exact a6.out.drew)
  have g1 : Hid (bL w F) := O (by rw [← H]; exact E.out.drew)
  clear Z X a6 E a0 a2
  refine wp_region_x [] (fun W => Blk W D.heap.size 32 [I G, I pc]) g4 ?_
  rw [H]
  clear H
  have HS : Hid (Blk F D.heap.size 32 [.int .i64 G, .int .i64 pc]) := d2
  refine tK1 0 ?_
  refine wpX_takeD 1 (some 17) (v := ?_) rfl rfl (by kernel_rfl) (fun _ _ _ h => h) HS.out (Or.inl ⟨by rfl, ?_⟩) ?_
  rotate_left
  ·intro W1 b7
   have k0 := b7.cell 0
   have k1 := b7.cell 1
   simp only [List.getElem?_cons_zero, List.getElem?_cons_succ] at k0 k1
   clear b7
   go_simp
   first | with_reducible rfl | rw [if_neg (by omega)]
  refine tK1 2 ?_
  refine nm ?_
  refine oD 3 fun a8 Y => ?_
  refine wp_store_ch info30 (.tmp 2) (.tmp 16) rfl w.heap.size zPgC _ rfl rfl f5.out rfl ⟨rfl, by decide⟩ ?_
  intro W7 V c7
  have A := O (And.intro V c7)
  clear V c7
  have e3 := O (A.out.2.blk (by have := d4.out; omega) d2.out)
  refine Y _ _ (fun _ => e3.out) ?_
  clear Y a8
  refine oD 4 fun a8 Y => ?_
  refine wp_store_ch info32a (.tmp 3) (.tmp 17) rfl (w.heap.size + 1) [I G, I pc] _ rfl rfl (A.out.2.blk (by omega) f2.out) rfl (two_one G pc) ?_
  intro W8 M Q
  have C := O (And.intro M Q)
  clear M Q
  have e9 := O (C.out.2.blk (by have := d4.out; omega) e3.out)
  refine Y _ _ (fun _ => e9.out) ?_
  clear Y a8
  refine tK1 5 ?_
  refine nm ?_
  refine dn ?_
  go_wp2_with fail
  refine end_cct e4 d1 info30 e6 d6 info32a (C.out.2.blk (by omega) A.out.1) rfl C.out.1 rfl rfl rfl rfl rfl rfl ?_
  rw [← g3.out]
  exact ⟨⟨zPgC, rfl, pgRL_zero _ _⟩, C.out.2.below (by omega) (A.out.2.below (by omega) g1.out)⟩
 ·subst he
  have g := N.out
  rw [if_neg (by decide)] at g
  have hf := pfind_all (nmf := nmf) l a cap S (a7.out trivial) a2.out (fun W hw => c9.out W a cap (E.out.trans (hw.mono E.out.size)) (a7.out trivial) (DesL.keep (fun b o u _ K => below_cell hw b o u K) a2.out))
  have e5 : (if desR nmf l = true then findR l else (zPg, (0, 0), 2)) = R := g
  rw [e5, HN.out] at hf
  clear g e5 N
  go_wp2_with fail
  refine hf.mono ?_
  clear hf
  rintro e W6 ⟨⟨ps, rfl, b6⟩, j⟩
  have f7 := O (Z.out.below j)
  have g5 := O (X.out.below j)
  have f3 := O (E.out.trans (j.mono E.out.size))
  have f9 := O b6
  have e0 := O b6.cells
  have g9 := E.out.size
  have g6 := X.out.lt
  clear j b6 Z X E a0 a2 a6
  go_wp2_with (first
   | (with_reducible refine s0 30 ?_; refine wpList_store_ch info30 rfl (.tmp 2) (.tmp 21) rfl w.heap.size ps _ rfl rfl f7.out rfl e0.out ?_; intro W7 V c7; have A := O (And.intro V c7); clear V c7)
   | (with_reducible refine s0 32 ?_; refine wpList_store_ch info32a rfl (.tmp 3) (.tmp 22) rfl (w.heap.size + 1) [I R.2.1.1, I R.2.1.2] _ rfl rfl (A.out.2.blk (by omega) g5.out) rfl (two_one _ _) ?_; intro W8 M Q; have C := O (And.intro M Q); clear M Q)
  )
  refine end_cct e4 d1 info30 e6 d6 info32a (C.out.2.blk (by omega) A.out.1) e0.out.1 C.out.1 rfl rfl rfl rfl rfl rfl ?_
  refine ⟨⟨ps, rfl, ?_⟩, C.out.2.below (by omega) (A.out.2.below (by omega) f3.out)⟩
  refine PgRL.weak (fun c hc => ?_) (f9.out.keep fun b o u j K => ?_)
  ·have h1 : S.heap.size ≤ c := hc
   show w.heap.size ≤ c
   omega
  ·have g8 : S.heap.size ≤ b := j
   rw [C.out.2.cellF (by omega), A.out.2.cellF (by omega)]
   exact K
end Go.Proofs.YtgppcdfgdaggjaaGreatDoor
