/- Texts laid together. No condition but what each law says. -/
import Derived.Test.YtgppcdfgdaggjaaGreatDoorQ01
import Derived.Test.YtgppcdfgdaggjaaGreatDoorQ19
set_option maxRecDepth 100000
set_option maxHeartbeats 16000000
namespace Go.Proofs.YtgppcdfgdaggjaaGreatDoor
open Go.RowKit Go.Maps
theorem under55 : ∃ d, Tryz.prog.underlying 46 = some d ∧ d.isRow = true := by
 have h : (Tryz.prog.underlying 46).map (·.isRow) = some true := by kernel_rfl
 obtain ⟨d, j, g⟩ := Option.map_eq_some_iff.1 h
 exact ⟨d, j, g⟩
theorem info55 : (Tryz.prog.info? 46).map (·.size) = some 6 := by kernel_rfl
theorem deAt_eq (T : List Wd) (i : Nat) : deAt T i = if isT T i (deW.getD 1 noB) = true then 1 else if isT T i (deW.getD 2 noB) = true then 2 else if isT T i (deW.getD 3 noB) = true then 3 else if isT T i (deW.getD 4 noB) = true then 4 else if isT T i (deW.getD 5 noB) = true then 5 else if isT T i (deW.getD 6 noB) = true then 6 else 0 := by
 unfold deAt
 rw [show List.range 7 = [0, 1, 2, 3, 4, 5, 6] from rfl]
 generalize F : isT T i = g
 cases D : g (deW.getD 1 noB) <;> cases w : g (deW.getD 2 noB) <;> cases j : g (deW.getD 3 noB) <;> cases C : g (deW.getD 4 noB) <;> cases E : g (deW.getD 5 noB) <;> cases A : g (deW.getD 6 noB) <;> simp only [List.find?_cons, D, w, j, C, E, A] <;> rfl
def deOk (w : World) (d : De) (e : Ending) (w' : World) : Prop := ∃ cs : List Value, e = .returned (.agg cs.toArray) ∧ DeL (w.heap.size ≤ ·) w' cs d
theorem decl_told {w W : World} {b y z j g : Nat} {S : Src} {d : De} {cs C : List Value} (K : Rw w b S g) (N : Kp w W b b) (h : Rw W b S j) (F : Blk W z 46 C) (H : C.length = 6) (J : w.heap.size ≤ z) (Q : b < w.heap.size)
  (D : DeL (fun c => w.heap.size ≤ c ∧ c ≠ y ∧ c ≠ z) W cs d) : Blk (W.setCells z 0 cs) z 46 cs ∧ WP w b S (.ok (d, j)) (deOk w) (.returned (.agg cs.toArray)) (W.setCells z 0 cs) := by
 have G := D.cells.1
 have E := Kp.setCellsNew J cs 0 N
 refine ⟨F.putAll (by rw [G, H]), E, ⟨cs, rfl, ?_⟩, K.fin h E (heap_setCells (by omega) cs 0 W)⟩
 refine DeL.weak (fun c A => A.1) (DeL.keep (fun c o v A M => ?_) D)
 rw [← M]
 simp [World.cellF, heap_setCells (w := W) (vs := cs) (o := 0) A.2.2]
theorem pNumb_bd {T : List Wd} (g : ∀ i, 0 ≤ (T.getD i default).num ∧ (T.getD i default).num ≤ 2147483647) {i j : Nat} {n : Int} (h : pNumb T i = some (.ok (n, j))) : 0 ≤ n ∧ n ≤ 2147483647 := by
 unfold pNumb at h
 split at h
 ·cases h
  exact g i
 ·cases h
theorem rw_new {w W : World} {b k j y : Nat} {S : Src} (D : Rw w b S k) (g : Kp w W b b) (h : Rw W b S j) (A : w.heap.size ≤ y) (C : y ≠ b) (o : Nat) (u : Value) : Rw (W.setCell ⟨y, o, none⟩ u) b S j :=
 D.fin h (g.setNew A o u) (Below.heap_setCell W ⟨y, o, none⟩ u b (Ne.symm C))
theorem de_none {ok : Nat → Prop} (W : World) (k j g n : Int) (s : ByteArray) : DeL ok W [I k, I j, I g, .string s, I n, .slice none 0 0] (mkDe k (j, g) s n []) := ⟨none, 0, rfl, ⟨rl, by decide⟩, by unfold mkDe StsL; trivial⟩
theorem decl_any {w : World} {b k : Nat} {S : Src} (g7 : b ≠ 0) (hN : ∀ i, 0 ≤ (S.T.getD i default).num ∧ (S.T.getD i default).num ≤ 2147483647) (h : Rw w b S k) (hO : Ops w) (i9 : Kds w b S) {R : Except Nat (De × Nat)} (g : pD S.T k = some R) :
  Calls Tryz.prog 76 #[Pt b] w (WP w b S R (deOk w)) := by
 unfold pD at g
 have a3 := deAt_eq S.T k
 obtain ⟨k8, d5, d4⟩ := under55
 have e9 := h.lt
 have HH := O h
 have h0 := h.alloc (.cells #[I 0, I 0, I 0, .string ⟨#[]⟩, I 0, .slice none 0 0] 46)
 have hp := peek_any h0
 obtain ⟨wd, g8⟩ := eX (nextW S.T S.en k)
 have i3 : k < S.T.length → wd = S.T.getD k default := fun e => by rw [← g8]; unfold nextW; rw [if_pos e]
 rw [g8] at hp
 obtain ⟨kd, tx, nu, C, A⟩ := wd
 have hf := field_p kd tx nu C A
 have HA := O i3
 clear g8 i3 h
 have i5 : Blk (w.alloc (.cells #[.int .i64 0, .int .i64 0, .int .i64 0, .string ⟨#[]⟩, .int .i64 0, .slice none 0 0] 46)) w.heap.size 46 [.int .i64 0, .int .i64 0, .int .i64 0, .string ⟨#[]⟩, .int .i64 0, .slice none 0 0] := World.alloc_heap_new _ _
 have i0 : Kp w (w.alloc (.cells #[.int .i64 0, .int .i64 0, .int .i64 0, .string ⟨#[]⟩, .int .i64 0, .slice none 0 0] 46)) b b := (Kp.refl w b b).alloc _
 have i2 : (w.alloc (.cells #[I 0, I 0, I 0, .string ⟨#[]⟩, I 0, .slice none 0 0] 46)).heap.size = w.heap.size + 1 := by simp
 go_in
 go_wp2_with fail
 refine hp.mono ?_
 rintro e W1 ⟨rfl, g1⟩
 simp only [Wd.val]
 have h1 := (h0.below g1).alloc (.cells #[I 0, I C, I A, .string ⟨#[]⟩, I 0, .slice none 0 0] 46)
 have i7 := (i5.below g1).alloc (.cells #[I 0, I C, I A, .string ⟨#[]⟩, I 0, .slice none 0 0] 46)
 have i8 := (i0.trans (kp_same (b := b) g1)).alloc (.cells #[I 0, I C, I A, .string ⟨#[]⟩, I 0, .slice none 0 0] 46)
 have g9 : Blk (W1.alloc (.cells #[.int .i64 0, .int .i64 C, .int .i64 A, .string ⟨#[]⟩, .int .i64 0, .slice none 0 0] 46)) W1.heap.size 46 [.int .i64 0, .int .i64 C, .int .i64 A, .string ⟨#[]⟩, .int .i64 0, .slice none 0 0] := World.alloc_heap_new _ _
 have i6 := g1.size
 rw [i2] at i6
 have k1 : (W1.alloc (.cells #[I 0, I C, I A, .string ⟨#[]⟩, I 0, .slice none 0 0] 46)).heap.size = W1.heap.size + 1 := by simp
 clear h0 i5 i0 g1 hp i2
 go_wp2_with fail
 obtain ⟨y, hy⟩ := eX (W1.heap.size)
 rw [hy] at g9 i6 k1 ⊢
 generalize W1.alloc (.cells #[I 0, I C, I A, .string ⟨#[]⟩, I 0, .slice none 0 0] 46) = W at *
 have j : y ≠ b := by omega
 have E : w.heap.size ≠ b := by omega
 have b9 : w.heap.size ≠ y := by omega
 have F : w.heap.size ≤ y := by omega
 refine (accept_any h1 (deW.getD 1 noB)).mono ?_
 rintro e W2 ⟨g4, rfl, h2⟩
 have g5 := g9.kp g4 j j
 have g6 := i7.kp g4 E E
 have g2 := i8.trans g4
 obtain ⟨m, hm⟩ := eX (isT S.T k (deW.getD 1 noB))
 rw [hm] at h2 a3
 rw [hm]
 clear hm g4
 clear h1 i8 g9 i7
 cases m
 case true =>
  have a5 : deAt S.T k = 1 := by simpa using a3
  clear a3
  have e0 := deAt_lt S.T (i := k) (by rw [a5]; decide)
  have e1 : plOf S.T k = (C, A) := by
   unfold plOf
   rw [← HA.out e0]
  rw [a5, e1, if_neg (by decide)] at g
  simp only [if_true] at h2
  clear a5
  go_wp2_with fail
  rcases hx3 : pName S.T (k + 1) with _ | (j3 | ⟨x3, j3⟩)
  ·rw [hx3] at g
   cases g
  ·rw [hx3] at g
   cases g
   refine (name_rd h2 hx3).mono ?_
   rintro e W3 ⟨d9, rfl⟩
   exact ⟨rfl, g2.trans d9, rfl⟩
  rw [hx3, andT_ok] at g
  refine (name_rd h2 hx3).mono ?_
  rintro e W3 ⟨d9, rfl, h3⟩
  have e2 := g5.kp d9 j j
  have f6 := g6.kp d9 E E
  have e5 := g2.trans d9
  clear h2 g2 g5 g6 hx3 d9
  have c0 := e2.cell 0
  have f0 := e2.frozen 0
  have c3 := e2.cell 3
  have f3 := e2.frozen 3
  have c9 : Blk ((W3.setCell ⟨y, 0, none⟩ (.int .i64 1)).setCell ⟨y, 3, none⟩ (.string x3)) y 46 [.int .i64 1, .int .i64 C, .int .i64 A, .string x3, .int .i64 0, .slice none 0 0] := ((e2.set1 0 (I 1)).set1 3 (.string x3))
  have d7 := ((f6.other b9 0 (I 1)).other b9 3 (.string x3))
  have h4 := (rw_new HH.out (e5.setNew F 0 (I 1)) (rw_new HH.out e5 h3 F j 0 (I 1)) F j 3 (.string x3))
  have d1 := ((e5.setNew F 0 (I 1)).setNew F 3 (.string x3))
  have X := O (And.intro c9 (And.intro d7 (And.intro h4 d1)))
  clear c9 d7 h4 d1 e2 f6 h3 e5
  go_wp2_with fail
  clear c0 f0 c3 f3
  obtain ⟨c9, d7, h4, d1⟩ := X.out
  clear X
  generalize (W3.setCell ⟨y, 0, none⟩ (I 1)).setCell ⟨y, 3, none⟩ (.string x3) = W4 at *
  rw [if_pos (by decide)] at g
  rcases hx5 : want S.T sEq j3 with _ | (j5 | ⟨x5, j5⟩)
  ·rw [hx5] at g
   cases g
  ·rw [hx5] at g
   cases g
   refine (want_any h4 sEq hx5).mono ?_
   rintro e W5 ⟨c8, rfl⟩
   exact ⟨rfl, d1.trans c8, rfl⟩
  rw [hx5, andT_ok] at g
  refine (want_any h4 sEq hx5).mono ?_
  rintro e W5 ⟨c8, rfl, h5⟩
  have b6 := c9.kp c8 j j
  have d2 := d7.kp c8 E E
  have b7 := d1.trans c8
  clear h4 d1 c9 d7 hx5 c8
  go_wp2_with fail
  refine (accept_any h5 sMinus).mono ?_
  rintro e W6 ⟨a4, rfl, U⟩
  have a2 := b6.kp a4 j j
  have a6 := d2.kp a4 E E
  have a0 := b7.trans a4
  obtain ⟨m, hm⟩ := eX (isT S.T j5 sMinus)
  rw [hm] at U g
  rw [hm]
  clear hm a4
  clear h5 b7 b6 d2
  cases m
  case false =>
   rw [if_neg Bool.false_ne_true] at g
   simp only [Bool.false_eq_true, if_false] at U
   go_wp2_with fail
   rcases hx7 : pNumb S.T j5 with _ | (j7 | ⟨D, j7⟩)
   ·rw [hx7] at g
    cases g
   ·rw [hx7] at g
    cases g
    refine (numb_rd U hx7).mono ?_
    rintro e W7 ⟨N, rfl⟩
    exact ⟨rfl, a0.trans N, rfl⟩
   rw [hx7, andT_ok] at g
   refine (numb_rd U hx7).mono ?_
   rintro e W7 ⟨N, rfl, M⟩
   have H := a2.kp N j j
   have a1 := a6.kp N E E
   have J := a0.trans N
   have k2 := pNumb_bd hN hx7
   clear U a0 a2 a6 hx7 N
   have c4 := H.cell 4
   have f4 := H.frozen 4
   have Q : Blk (W7.setCell ⟨y, 4, none⟩ (.int .i64 D)) y 46 [.int .i64 1, .int .i64 C, .int .i64 A, .string x3, .int .i64 D, .slice none 0 0] := (H.set1 4 (I D))
   have Z := (a1.other b9 4 (I D))
   have Y := (rw_new HH.out J M F j 4 (I D))
   have V := (J.setNew F 4 (I D))
   have X := O (And.intro Q (And.intro Z (And.intro Y V)))
   clear Q Z Y V H a1 M J
   go_wp2_with fail
   clear c4 f4
   obtain ⟨Q, Z, Y, V⟩ := X.out
   clear X
   generalize W7.setCell ⟨y, 4, none⟩ (I D) = W8 at *
   rcases hx9 : want S.T sSemi j7 with _ | (j9 | ⟨x9, j9⟩)
   ·rw [hx9] at g
    cases g
   ·rw [hx9] at g
    cases g
    refine (want_any Y sSemi hx9).mono ?_
    rintro e W9 ⟨b5, rfl⟩
    exact ⟨rfl, V.trans b5, rfl⟩
   rw [hx9, andT_ok] at g
   refine (want_any Y sSemi hx9).mono ?_
   rintro e W9 ⟨b5, rfl, h9⟩
   have b8 := Q.kp b5 j j
   have d0 := Z.kp b5 E E
   have a8 := V.trans b5
   clear Y V Q Z hx9 b5
   cases g
   have G : DeL (fun c => w.heap.size ≤ c ∧ c ≠ y ∧ c ≠ w.heap.size) W9 [.int .i64 1, .int .i64 C, .int .i64 A, .string x3, .int .i64 D, .slice none 0 0] (mkDe 1 (C, A) x3 D []) := de_none _ 1 C A D x3
   have G := decl_told (y := y) HH.out a8 h9 d0 rfl rl e9 G
   have a7 : ∀ v ∈ ([I 1, I C, I A, .string x3, I D, .slice none 0 0] : List Value), v.oneCell' = true := by
    intro v hv
    simp only [List.mem_cons, List.not_mem_nil, or_false] at hv
    rcases hv with rfl | rfl | rfl | rfl | rfl | rfl <;> rfl
   have K : ([I 1, I C, I A, .string x3, I D, .slice none 0 0] : List Value).length = 6 := rfl
   obtain ⟨cs, a9⟩ : ∃ cs : List Value, [I 1, I C, I A, .string x3, I D, .slice none 0 0] = cs := ⟨_, rfl⟩
   rw [a9] at G a7 K b8
   clear a9
   have d6 := O b8
   have HZ := O d0
   have HF := O G
   clear b8 d0 h9 a8 G
   go_wp2_with (first | (with_reducible refine l0 46 ?_; refine wpList_load_blk d5 d4 info55 rfl (.tmp 3) rfl y cs rfl d6 K ?_) | (with_reducible refine s0 46 ?_; refine wpList_store_blk info55 rfl (.tmp 2) (.tmp 117) rfl w.heap.size cs _ rfl rfl HZ rfl K a7 ?_))
   exact end_blk d5 d4 info55 HF.out.1 K rfl rfl rfl HF.out.2
  case true =>
   rw [if_pos rfl] at g
   simp only [if_true] at U
   go_wp2_with fail
   rcases hx7 : pNumb S.T (j5 + 1) with _ | (j7 | ⟨D, j7⟩)
   ·rw [hx7] at g
    cases g
   ·rw [hx7] at g
    cases g
    refine (numb_rd U hx7).mono ?_
    rintro e W7 ⟨N, rfl⟩
    exact ⟨rfl, a0.trans N, rfl⟩
   rw [hx7, andT_ok] at g
   refine (numb_rd U hx7).mono ?_
   rintro e W7 ⟨N, rfl, M⟩
   have H := a2.kp N j j
   have a1 := a6.kp N E E
   have J := a0.trans N
   have k2 := pNumb_bd hN hx7
   clear U a0 a2 a6 hx7 N
   have hw : IntKind.i64.wrap (-D) = -D := by
    rw [IntKind.wrap_i64]
    omega
   have c4 := H.cell 4
   have f4 := H.frozen 4
   have Q : Blk ((W7.setCell ⟨y, 4, none⟩ (.int .i64 D)).setCell ⟨y, 4, none⟩ (.int .i64 (-D))) y 46 [.int .i64 1, .int .i64 C, .int .i64 A, .string x3, .int .i64 (-D), .slice none 0 0] := (H.set1 4 (I D)).set1 4 (I (-D))
   have Z := (a1.other b9 4 (I D)).other b9 4 (I (-D))
   have Y := rw_new HH.out (J.setNew F 4 (I D)) (rw_new HH.out J M F j 4 (I D)) F j 4 (I (-D))
   have V := (J.setNew F 4 (I D)).setNew F 4 (I (-D))
   have X := O (And.intro Q (And.intro Z (And.intro Y V)))
   clear Q Z Y V H a1 M J
   go_wp2_with fail
   clear c4 f4 hw
   obtain ⟨Q, Z, Y, V⟩ := X.out
   clear X
   generalize (W7.setCell ⟨y, 4, none⟩ (I D)).setCell ⟨y, 4, none⟩ (I (-D)) = W8 at *
   rcases hx9 : want S.T sSemi j7 with _ | (j9 | ⟨x9, j9⟩)
   ·rw [hx9] at g
    cases g
   ·rw [hx9] at g
    cases g
    refine (want_any Y sSemi hx9).mono ?_
    rintro e W9 ⟨b5, rfl⟩
    exact ⟨rfl, V.trans b5, rfl⟩
   rw [hx9, andT_ok] at g
   refine (want_any Y sSemi hx9).mono ?_
   rintro e W9 ⟨b5, rfl, h9⟩
   have b8 := Q.kp b5 j j
   have d0 := Z.kp b5 E E
   have a8 := V.trans b5
   clear Y V Q Z hx9 b5
   cases g
   have G : DeL (fun c => w.heap.size ≤ c ∧ c ≠ y ∧ c ≠ w.heap.size) W9 [.int .i64 1, .int .i64 C, .int .i64 A, .string x3, .int .i64 (-D), .slice none 0 0] (mkDe 1 (C, A) x3 (-D) []) := de_none _ 1 C A (-D) x3
   have G := decl_told (y := y) HH.out a8 h9 d0 rfl rl e9 G
   have a7 : ∀ v ∈ ([I 1, I C, I A, .string x3, I (-D), .slice none 0 0] : List Value), v.oneCell' = true := by
    intro v hv
    simp only [List.mem_cons, List.not_mem_nil, or_false] at hv
    rcases hv with rfl | rfl | rfl | rfl | rfl | rfl <;> rfl
   have K : ([I 1, I C, I A, .string x3, I (-D), .slice none 0 0] : List Value).length = 6 := rfl
   obtain ⟨cs, a9⟩ : ∃ cs : List Value, [I 1, I C, I A, .string x3, I (-D), .slice none 0 0] = cs := ⟨_, rfl⟩
   rw [a9] at G a7 K b8
   clear a9
   have d6 := O b8
   have HZ := O d0
   have HF := O G
   clear b8 d0 h9 a8 G
   go_wp2_with (first | (with_reducible refine l0 46 ?_; refine wpList_load_blk d5 d4 info55 rfl (.tmp 3) rfl y cs rfl d6 K ?_) | (with_reducible refine s0 46 ?_; refine wpList_store_blk info55 rfl (.tmp 2) (.tmp 117) rfl w.heap.size cs _ rfl rfl HZ rfl K a7 ?_))
   exact end_blk d5 d4 info55 HF.out.1 K rfl rfl rfl HF.out.2
 case false =>
  simp only [Bool.false_eq_true, if_false] at h2
  rw [if_neg Bool.false_ne_true] at a3
  go_wp2_with fail
  refine (accept_any h2 (deW.getD 2 noB)).mono ?_
  rintro e W3 ⟨d9, rfl, h3⟩
  have e2 := g5.kp d9 j j
  have f6 := g6.kp d9 E E
  have e5 := g2.trans d9
  obtain ⟨m, hm⟩ := eX (isT S.T k (deW.getD 2 noB))
  rw [hm] at h3 a3
  rw [hm]
  clear hm d9
  clear h2 g2 g5 g6
  cases m
  case true =>
   have a5 : deAt S.T k = 2 := by simpa using a3
   clear a3
   have e0 := deAt_lt S.T (i := k) (by rw [a5]; decide)
   have e1 : plOf S.T k = (C, A) := by
    unfold plOf
    rw [← HA.out e0]
   rw [a5, e1, if_neg (by decide)] at g
   simp only [if_true] at h3
   clear a5
   go_wp2_with fail
   rcases hx4 : pName S.T (k + 1) with _ | (j4 | ⟨x4, j4⟩)
   ·rw [hx4] at g
    cases g
   ·rw [hx4] at g
    cases g
    refine (name_rd h3 hx4).mono ?_
    rintro e W4 ⟨d8, rfl⟩
    exact ⟨rfl, e5.trans d8, rfl⟩
   rw [hx4, andT_ok] at g
   refine (name_rd h3 hx4).mono ?_
   rintro e W4 ⟨d8, rfl, h4⟩
   have c9 := e2.kp d8 j j
   have d7 := f6.kp d8 E E
   have d1 := e5.trans d8
   clear h3 e5 e2 f6 hx4 d8
   have c0 := c9.cell 0
   have f0 := c9.frozen 0
   have c3 := c9.cell 3
   have f3 := c9.frozen 3
   have b6 : Blk ((W4.setCell ⟨y, 0, none⟩ (.int .i64 2)).setCell ⟨y, 3, none⟩ (.string x4)) y 46 [.int .i64 2, .int .i64 C, .int .i64 A, .string x4, .int .i64 0, .slice none 0 0] := ((c9.set1 0 (I 2)).set1 3 (.string x4))
   have d2 := ((d7.other b9 0 (I 2)).other b9 3 (.string x4))
   have h5 := (rw_new HH.out (d1.setNew F 0 (I 2)) (rw_new HH.out d1 h4 F j 0 (I 2)) F j 3 (.string x4))
   have b7 := ((d1.setNew F 0 (I 2)).setNew F 3 (.string x4))
   have X := O (And.intro b6 (And.intro d2 (And.intro h5 b7)))
   clear b6 d2 h5 b7 c9 d7 h4 d1
   go_wp2_with fail
   clear c0 f0 c3 f3
   obtain ⟨b6, d2, h5, b7⟩ := X.out
   clear X
   generalize (W4.setCell ⟨y, 0, none⟩ (I 2)).setCell ⟨y, 3, none⟩ (.string x4) = W5 at *
   rw [if_neg (by decide), if_pos (by decide)] at g
   rcases hx6 : pNumb S.T j4 with _ | (j6 | ⟨x6, j6⟩)
   ·rw [hx6] at g
    cases g
   ·rw [hx6] at g
    cases g
    refine (numb_rd h5 hx6).mono ?_
    rintro e W6 ⟨a4, rfl⟩
    exact ⟨rfl, b7.trans a4, rfl⟩
   rw [hx6, andT_ok] at g
   refine (numb_rd h5 hx6).mono ?_
   rintro e W6 ⟨a4, rfl, U⟩
   have a2 := b6.kp a4 j j
   have a6 := d2.kp a4 E E
   have a0 := b7.trans a4
   clear h5 b7 b6 d2 hx6 a4
   have c4 := a2.cell 4
   have f4 := a2.frozen 4
   have H : Blk (W6.setCell ⟨y, 4, none⟩ (.int .i64 x6)) y 46 [.int .i64 2, .int .i64 C, .int .i64 A, .string x4, .int .i64 x6, .slice none 0 0] := (a2.set1 4 (I x6))
   have a1 := (a6.other b9 4 (I x6))
   have M := (rw_new HH.out a0 U F j 4 (I x6))
   have J := (a0.setNew F 4 (I x6))
   have X := O (And.intro H (And.intro a1 (And.intro M J)))
   clear H a1 M J a2 a6 U a0
   go_wp2_with fail
   clear c4 f4
   obtain ⟨H, a1, M, J⟩ := X.out
   clear X
   generalize W6.setCell ⟨y, 4, none⟩ (I x6) = W7 at *
   rcases hx8 : want S.T sSemi j6 with _ | (j8 | ⟨x8, j8⟩)
   ·rw [hx8] at g
    cases g
   ·rw [hx8] at g
    cases g
    refine (want_any M sSemi hx8).mono ?_
    rintro e W8 ⟨b4, rfl⟩
    exact ⟨rfl, J.trans b4, rfl⟩
   rw [hx8, andT_ok] at g
   refine (want_any M sSemi hx8).mono ?_
   rintro e W8 ⟨b4, rfl, Y⟩
   have Q := H.kp b4 j j
   have Z := a1.kp b4 E E
   have V := J.trans b4
   clear M J H a1 hx8 b4
   cases g
   have G : DeL (fun c => w.heap.size ≤ c ∧ c ≠ y ∧ c ≠ w.heap.size) W8 [.int .i64 2, .int .i64 C, .int .i64 A, .string x4, .int .i64 x6, .slice none 0 0] (mkDe 2 (C, A) x4 x6 []) := de_none _ 2 C A x6 x4
   have G := decl_told (y := y) HH.out V Y Z rfl rl e9 G
   have a7 : ∀ v ∈ ([I 2, I C, I A, .string x4, I x6, .slice none 0 0] : List Value), v.oneCell' = true := by
    intro v hv
    simp only [List.mem_cons, List.not_mem_nil, or_false] at hv
    rcases hv with rfl | rfl | rfl | rfl | rfl | rfl <;> rfl
   have K : ([I 2, I C, I A, .string x4, I x6, .slice none 0 0] : List Value).length = 6 := rfl
   obtain ⟨cs, a9⟩ : ∃ cs : List Value, [I 2, I C, I A, .string x4, I x6, .slice none 0 0] = cs := ⟨_, rfl⟩
   rw [a9] at G a7 K Q
   clear a9
   have d6 := O Q
   have HZ := O Z
   have HF := O G
   clear Q Z Y V G
   go_wp2_with (first | (with_reducible refine l0 46 ?_; refine wpList_load_blk d5 d4 info55 rfl (.tmp 3) rfl y cs rfl d6 K ?_) | (with_reducible refine s0 46 ?_; refine wpList_store_blk info55 rfl (.tmp 2) (.tmp 117) rfl w.heap.size cs _ rfl rfl HZ rfl K a7 ?_))
   exact end_blk d5 d4 info55 HF.out.1 K rfl rfl rfl HF.out.2
  case false =>
   simp only [Bool.false_eq_true, if_false] at h3
   rw [if_neg Bool.false_ne_true] at a3
   go_wp2_with fail
   refine (accept_any h3 (deW.getD 3 noB)).mono ?_
   rintro e W4 ⟨d8, rfl, h4⟩
   have c9 := e2.kp d8 j j
   have d7 := f6.kp d8 E E
   have d1 := e5.trans d8
   obtain ⟨m, hm⟩ := eX (isT S.T k (deW.getD 3 noB))
   rw [hm] at h4 a3
   rw [hm]
   clear hm d8
   clear h3 e5 e2 f6
   cases m
   case true =>
    have a5 : deAt S.T k = 3 := by simpa using a3
    clear a3
    have e0 := deAt_lt S.T (i := k) (by rw [a5]; decide)
    have e1 : plOf S.T k = (C, A) := by
     unfold plOf
     rw [← HA.out e0]
    rw [a5, e1, if_neg (by decide)] at g
    simp only [if_true] at h4
    clear a5
    go_wp2_with fail
    rcases hx5 : pName S.T (k + 1) with _ | (j5 | ⟨x5, j5⟩)
    ·rw [hx5] at g
     cases g
    ·rw [hx5] at g
     cases g
     refine (name_rd h4 hx5).mono ?_
     rintro e W5 ⟨c8, rfl⟩
     exact ⟨rfl, d1.trans c8, rfl⟩
    rw [hx5, andT_ok] at g
    refine (name_rd h4 hx5).mono ?_
    rintro e W5 ⟨c8, rfl, h5⟩
    have b6 := c9.kp c8 j j
    have d2 := d7.kp c8 E E
    have b7 := d1.trans c8
    clear h4 d1 c9 d7 hx5 c8
    have c0 := b6.cell 0
    have f0 := b6.frozen 0
    have c3 := b6.cell 3
    have f3 := b6.frozen 3
    have a2 : Blk ((W5.setCell ⟨y, 0, none⟩ (.int .i64 3)).setCell ⟨y, 3, none⟩ (.string x5)) y 46 [.int .i64 3, .int .i64 C, .int .i64 A, .string x5, .int .i64 0, .slice none 0 0] := ((b6.set1 0 (I 3)).set1 3 (.string x5))
    have a6 := ((d2.other b9 0 (I 3)).other b9 3 (.string x5))
    have U := (rw_new HH.out (b7.setNew F 0 (I 3)) (rw_new HH.out b7 h5 F j 0 (I 3)) F j 3 (.string x5))
    have a0 := ((b7.setNew F 0 (I 3)).setNew F 3 (.string x5))
    have X := O (And.intro a2 (And.intro a6 (And.intro U a0)))
    clear a2 a6 U a0 b6 d2 h5 b7
    go_wp2_with fail
    clear c0 f0 c3 f3
    obtain ⟨a2, a6, U, a0⟩ := X.out
    clear X
    generalize (W5.setCell ⟨y, 0, none⟩ (I 3)).setCell ⟨y, 3, none⟩ (.string x5) = W6 at *
    rw [if_neg (by decide), if_neg (by decide), if_neg (by decide)] at g
    rcases hx7 : want S.T sSemi j5 with _ | (j7 | ⟨D, j7⟩)
    ·rw [hx7] at g
     cases g
    ·rw [hx7] at g
     cases g
     refine (want_any U sSemi hx7).mono ?_
     rintro e W7 ⟨N, rfl⟩
     exact ⟨rfl, a0.trans N, rfl⟩
    rw [hx7, andT_ok] at g
    refine (want_any U sSemi hx7).mono ?_
    rintro e W7 ⟨N, rfl, M⟩
    have H := a2.kp N j j
    have a1 := a6.kp N E E
    have J := a0.trans N
    clear U a0 a2 a6 hx7 N
    cases g
    have G : DeL (fun c => w.heap.size ≤ c ∧ c ≠ y ∧ c ≠ w.heap.size) W7 [.int .i64 3, .int .i64 C, .int .i64 A, .string x5, .int .i64 0, .slice none 0 0] (mkDe 3 (C, A) x5 0 []) := de_none _ 3 C A 0 x5
    have G := decl_told (y := y) HH.out J M a1 rfl rl e9 G
    have a7 : ∀ v ∈ ([I 3, I C, I A, .string x5, I 0, .slice none 0 0] : List Value), v.oneCell' = true := by
     intro v hv
     simp only [List.mem_cons, List.not_mem_nil, or_false] at hv
     rcases hv with rfl | rfl | rfl | rfl | rfl | rfl <;> rfl
    have K : ([I 3, I C, I A, .string x5, I 0, .slice none 0 0] : List Value).length = 6 := rfl
    obtain ⟨cs, a9⟩ : ∃ cs : List Value, [I 3, I C, I A, .string x5, I 0, .slice none 0 0] = cs := ⟨_, rfl⟩
    rw [a9] at G a7 K H
    clear a9
    have d6 := O H
    have HZ := O a1
    have HF := O G
    clear H a1 M J G
    go_wp2_with (first | (with_reducible refine l0 46 ?_; refine wpList_load_blk d5 d4 info55 rfl (.tmp 3) rfl y cs rfl d6 K ?_) | (with_reducible refine s0 46 ?_; refine wpList_store_blk info55 rfl (.tmp 2) (.tmp 117) rfl w.heap.size cs _ rfl rfl HZ rfl K a7 ?_))
    exact end_blk d5 d4 info55 HF.out.1 K rfl rfl rfl HF.out.2
   case false =>
    simp only [Bool.false_eq_true, if_false] at h4
    rw [if_neg Bool.false_ne_true] at a3
    go_wp2_with fail
    refine (accept_any h4 (deW.getD 4 noB)).mono ?_
    rintro e W5 ⟨c8, rfl, h5⟩
    have b6 := c9.kp c8 j j
    have d2 := d7.kp c8 E E
    have b7 := d1.trans c8
    obtain ⟨m, hm⟩ := eX (isT S.T k (deW.getD 4 noB))
    rw [hm] at h5 a3
    rw [hm]
    clear hm c8
    clear h4 d1 c9 d7
    cases m
    case true =>
     have a5 : deAt S.T k = 4 := by simpa using a3
     clear a3
     have e0 := deAt_lt S.T (i := k) (by rw [a5]; decide)
     have e1 : plOf S.T k = (C, A) := by
      unfold plOf
      rw [← HA.out e0]
     rw [a5, e1, if_neg (by decide)] at g
     simp only [if_true] at h5
     clear a5
     go_wp2_with fail
     rcases hx6 : pName S.T (k + 1) with _ | (j6 | ⟨x6, j6⟩)
     ·rw [hx6] at g
      cases g
     ·rw [hx6] at g
      cases g
      refine (name_rd h5 hx6).mono ?_
      rintro e W6 ⟨a4, rfl⟩
      exact ⟨rfl, b7.trans a4, rfl⟩
     rw [hx6, andT_ok] at g
     refine (name_rd h5 hx6).mono ?_
     rintro e W6 ⟨a4, rfl, U⟩
     have a2 := b6.kp a4 j j
     have a6 := d2.kp a4 E E
     have a0 := b7.trans a4
     clear h5 b7 b6 d2 hx6 a4
     have c0 := a2.cell 0
     have f0 := a2.frozen 0
     have c3 := a2.cell 3
     have f3 := a2.frozen 3
     have H : Blk ((W6.setCell ⟨y, 0, none⟩ (.int .i64 4)).setCell ⟨y, 3, none⟩ (.string x6)) y 46 [.int .i64 4, .int .i64 C, .int .i64 A, .string x6, .int .i64 0, .slice none 0 0] := ((a2.set1 0 (I 4)).set1 3 (.string x6))
     have a1 := ((a6.other b9 0 (I 4)).other b9 3 (.string x6))
     have M := (rw_new HH.out (a0.setNew F 0 (I 4)) (rw_new HH.out a0 U F j 0 (I 4)) F j 3 (.string x6))
     have J := ((a0.setNew F 0 (I 4)).setNew F 3 (.string x6))
     have X := O (And.intro H (And.intro a1 (And.intro M J)))
     clear H a1 M J a2 a6 U a0
     go_wp2_with fail
     clear c0 f0 c3 f3
     obtain ⟨H, a1, M, J⟩ := X.out
     clear X
     generalize (W6.setCell ⟨y, 0, none⟩ (I 4)).setCell ⟨y, 3, none⟩ (.string x6) = W7 at *
     rw [if_neg (by decide), if_neg (by decide), if_neg (by decide)] at g
     rcases hx8 : want S.T sSemi j6 with _ | (j8 | ⟨x8, j8⟩)
     ·rw [hx8] at g
      cases g
     ·rw [hx8] at g
      cases g
      refine (want_any M sSemi hx8).mono ?_
      rintro e W8 ⟨b4, rfl⟩
      exact ⟨rfl, J.trans b4, rfl⟩
     rw [hx8, andT_ok] at g
     refine (want_any M sSemi hx8).mono ?_
     rintro e W8 ⟨b4, rfl, Y⟩
     have Q := H.kp b4 j j
     have Z := a1.kp b4 E E
     have V := J.trans b4
     clear M J H a1 hx8 b4
     cases g
     have G : DeL (fun c => w.heap.size ≤ c ∧ c ≠ y ∧ c ≠ w.heap.size) W8 [.int .i64 4, .int .i64 C, .int .i64 A, .string x6, .int .i64 0, .slice none 0 0] (mkDe 4 (C, A) x6 0 []) := de_none _ 4 C A 0 x6
     have G := decl_told (y := y) HH.out V Y Z rfl rl e9 G
     have a7 : ∀ v ∈ ([I 4, I C, I A, .string x6, I 0, .slice none 0 0] : List Value), v.oneCell' = true := by
      intro v hv
      simp only [List.mem_cons, List.not_mem_nil, or_false] at hv
      rcases hv with rfl | rfl | rfl | rfl | rfl | rfl <;> rfl
     have K : ([I 4, I C, I A, .string x6, I 0, .slice none 0 0] : List Value).length = 6 := rfl
     obtain ⟨cs, a9⟩ : ∃ cs : List Value, [I 4, I C, I A, .string x6, I 0, .slice none 0 0] = cs := ⟨_, rfl⟩
     rw [a9] at G a7 K Q
     clear a9
     have d6 := O Q
     have HZ := O Z
     have HF := O G
     clear Q Z Y V G
     go_wp2_with (first | (with_reducible refine l0 46 ?_; refine wpList_load_blk d5 d4 info55 rfl (.tmp 3) rfl y cs rfl d6 K ?_) | (with_reducible refine s0 46 ?_; refine wpList_store_blk info55 rfl (.tmp 2) (.tmp 117) rfl w.heap.size cs _ rfl rfl HZ rfl K a7 ?_))
     exact end_blk d5 d4 info55 HF.out.1 K rfl rfl rfl HF.out.2
    case false =>
     simp only [Bool.false_eq_true, if_false] at h5
     rw [if_neg Bool.false_ne_true] at a3
     go_wp2_with fail
     refine (accept_any h5 (deW.getD 5 noB)).mono ?_
     rintro e W6 ⟨a4, rfl, U⟩
     have a2 := b6.kp a4 j j
     have a6 := d2.kp a4 E E
     have a0 := b7.trans a4
     obtain ⟨m, hm⟩ := eX (isT S.T k (deW.getD 5 noB))
     rw [hm] at U a3
     rw [hm]
     clear hm a4
     clear h5 b7 b6 d2
     cases m
     case true =>
      have a5 : deAt S.T k = 5 := by simpa using a3
      clear a3
      have e0 := deAt_lt S.T (i := k) (by rw [a5]; decide)
      have e1 : plOf S.T k = (C, A) := by
       unfold plOf
       rw [← HA.out e0]
      rw [a5, e1, if_neg (by decide)] at g
      simp only [if_true] at U
      clear a5
      go_wp2_with fail
      rcases hx7 : pName S.T (k + 1) with _ | (j7 | ⟨D, j7⟩)
      ·rw [hx7] at g
       cases g
      ·rw [hx7] at g
       cases g
       refine (name_rd U hx7).mono ?_
       rintro e W7 ⟨N, rfl⟩
       exact ⟨rfl, a0.trans N, rfl⟩
      rw [hx7, andT_ok] at g
      refine (name_rd U hx7).mono ?_
      rintro e W7 ⟨N, rfl, M⟩
      have H := a2.kp N j j
      have a1 := a6.kp N E E
      have J := a0.trans N
      clear U a0 a2 a6 hx7 N
      have c0 := H.cell 0
      have f0 := H.frozen 0
      have c3 := H.cell 3
      have f3 := H.frozen 3
      have Q : Blk ((W7.setCell ⟨y, 0, none⟩ (.int .i64 5)).setCell ⟨y, 3, none⟩ (.string D)) y 46 [.int .i64 5, .int .i64 C, .int .i64 A, .string D, .int .i64 0, .slice none 0 0] := ((H.set1 0 (I 5)).set1 3 (.string D))
      have Z := ((a1.other b9 0 (I 5)).other b9 3 (.string D))
      have Y := (rw_new HH.out (J.setNew F 0 (I 5)) (rw_new HH.out J M F j 0 (I 5)) F j 3 (.string D))
      have V := ((J.setNew F 0 (I 5)).setNew F 3 (.string D))
      have X := O (And.intro Q (And.intro Z (And.intro Y V)))
      clear Q Z Y V H a1 M J
      go_wp2_with fail
      clear c0 f0 c3 f3
      obtain ⟨Q, Z, Y, V⟩ := X.out
      clear X
      generalize (W7.setCell ⟨y, 0, none⟩ (I 5)).setCell ⟨y, 3, none⟩ (.string D) = W8 at *
      rw [if_neg (by decide), if_pos (by decide)] at g
      rcases hx9 : pNumb S.T j7 with _ | (j9 | ⟨x9, j9⟩)
      ·rw [hx9] at g
       cases g
      ·rw [hx9] at g
       cases g
       refine (numb_rd Y hx9).mono ?_
       rintro e W9 ⟨b5, rfl⟩
       exact ⟨rfl, V.trans b5, rfl⟩
      rw [hx9, andT_ok] at g
      refine (numb_rd Y hx9).mono ?_
      rintro e W9 ⟨b5, rfl, h9⟩
      have b8 := Q.kp b5 j j
      have d0 := Z.kp b5 E E
      have a8 := V.trans b5
      clear Y V Q Z hx9 b5
      have c4 := b8.cell 4
      have f4 := b8.frozen 4
      have e3 : Blk (W9.setCell ⟨y, 4, none⟩ (.int .i64 x9)) y 46 [.int .i64 5, .int .i64 C, .int .i64 A, .string D, .int .i64 x9, .slice none 0 0] := (b8.set1 4 (I x9))
      have e7 := (d0.other b9 4 (I x9))
      have e6 := (rw_new HH.out a8 h9 F j 4 (I x9))
      have e4 := (a8.setNew F 4 (I x9))
      have X := O (And.intro e3 (And.intro e7 (And.intro e6 e4)))
      clear e3 e7 e6 e4 b8 d0 h9 a8
      go_wp2_with fail
      clear c4 f4
      obtain ⟨e3, e7, e6, e4⟩ := X.out
      clear X
      generalize W9.setCell ⟨y, 4, none⟩ (I x9) = f1 at *
      rcases hx11 : want S.T sSemi j9 with _ | (j2 | ⟨k9, j2⟩)
      ·rw [hx11] at g
       cases g
      ·rw [hx11] at g
       cases g
       refine (want_any e6 sSemi hx11).mono ?_
       rintro e i1 ⟨f8, rfl⟩
       exact ⟨rfl, e4.trans f8, rfl⟩
      rw [hx11, andT_ok] at g
      refine (want_any e6 sSemi hx11).mono ?_
      rintro e i1 ⟨f8, rfl, f9⟩
      have e8 := e3.kp f8 j j
      have f2 := e7.kp f8 E E
      have g3 := e4.trans f8
      clear e6 e4 e3 e7 hx11 f8
      cases g
      have G : DeL (fun c => w.heap.size ≤ c ∧ c ≠ y ∧ c ≠ w.heap.size) i1 [.int .i64 5, .int .i64 C, .int .i64 A, .string D, .int .i64 x9, .slice none 0 0] (mkDe 5 (C, A) D x9 []) := de_none _ 5 C A x9 D
      have G := decl_told (y := y) HH.out g3 f9 f2 rfl rl e9 G
      have a7 : ∀ v ∈ ([I 5, I C, I A, .string D, I x9, .slice none 0 0] : List Value), v.oneCell' = true := by
       intro v hv
       simp only [List.mem_cons, List.not_mem_nil, or_false] at hv
       rcases hv with rfl | rfl | rfl | rfl | rfl | rfl <;> rfl
      have K : ([I 5, I C, I A, .string D, I x9, .slice none 0 0] : List Value).length = 6 := rfl
      obtain ⟨cs, a9⟩ : ∃ cs : List Value, [I 5, I C, I A, .string D, I x9, .slice none 0 0] = cs := ⟨_, rfl⟩
      rw [a9] at G a7 K e8
      clear a9
      have d6 := O e8
      have HZ := O f2
      have HF := O G
      clear e8 f2 f9 g3 G
      go_wp2_with (first | (with_reducible refine l0 46 ?_; refine wpList_load_blk d5 d4 info55 rfl (.tmp 3) rfl y cs rfl d6 K ?_) | (with_reducible refine s0 46 ?_; refine wpList_store_blk info55 rfl (.tmp 2) (.tmp 117) rfl w.heap.size cs _ rfl rfl HZ rfl K a7 ?_))
      exact end_blk d5 d4 info55 HF.out.1 K rfl rfl rfl HF.out.2
     case false =>
      simp only [Bool.false_eq_true, if_false] at U
      rw [if_neg Bool.false_ne_true] at a3
      go_wp2_with fail
      refine (accept_any U (deW.getD 6 noB)).mono ?_
      rintro e W7 ⟨N, rfl, M⟩
      have H := a2.kp N j j
      have a1 := a6.kp N E E
      have J := a0.trans N
      obtain ⟨m, hm⟩ := eX (isT S.T k (deW.getD 6 noB))
      rw [hm] at M a3
      rw [hm]
      clear hm N
      clear U a0 a2 a6
      cases m
      case true =>
       have a5 : deAt S.T k = 6 := by simpa using a3
       clear a3
       have e0 := deAt_lt S.T (i := k) (by rw [a5]; decide)
       have e1 : plOf S.T k = (C, A) := by
        unfold plOf
        rw [← HA.out e0]
       rw [a5, e1, if_neg (by decide)] at g
       simp only [if_true] at M
       clear a5
       go_wp2_with fail
       rcases hx8 : pName S.T (k + 1) with _ | (j8 | ⟨x8, j8⟩)
       ·rw [hx8] at g
        cases g
       ·rw [hx8] at g
        cases g
        refine (name_rd M hx8).mono ?_
        rintro e W8 ⟨b4, rfl⟩
        exact ⟨rfl, J.trans b4, rfl⟩
       rw [hx8, andT_ok] at g
       refine (name_rd M hx8).mono ?_
       rintro e W8 ⟨b4, rfl, Y⟩
       have Q := H.kp b4 j j
       have Z := a1.kp b4 E E
       have V := J.trans b4
       clear M J H a1 hx8 b4
       have c0 := Q.cell 0
       have f0 := Q.frozen 0
       have c3 := Q.cell 3
       have f3 := Q.frozen 3
       have b8 : Blk ((W8.setCell ⟨y, 0, none⟩ (.int .i64 6)).setCell ⟨y, 3, none⟩ (.string x8)) y 46 [.int .i64 6, .int .i64 C, .int .i64 A, .string x8, .int .i64 0, .slice none 0 0] := ((Q.set1 0 (I 6)).set1 3 (.string x8))
       have d0 := ((Z.other b9 0 (I 6)).other b9 3 (.string x8))
       have h9 := (rw_new HH.out (V.setNew F 0 (I 6)) (rw_new HH.out V Y F j 0 (I 6)) F j 3 (.string x8))
       have a8 := ((V.setNew F 0 (I 6)).setNew F 3 (.string x8))
       have X := O (And.intro b8 (And.intro d0 (And.intro h9 a8)))
       clear b8 d0 h9 a8 Q Z Y V
       go_wp2_with fail
       clear c0 f0 c3 f3
       obtain ⟨b8, d0, h9, a8⟩ := X.out
       clear X
       generalize (W8.setCell ⟨y, 0, none⟩ (I 6)).setCell ⟨y, 3, none⟩ (.string x8) = W9 at *
       rw [if_neg (by decide), if_neg (by decide), if_pos (by decide)] at g
       have k7 := b8.lt
       have l3 := d0.lt
       rcases hx10 : pBlk S.T j8 with _ | (j0 | ⟨d3, j0⟩)
       ·rw [hx10] at g
        cases g
       ·rw [hx10] at g
        cases g
        refine (block_any g7 h9 (hO.kp a8 g7) (i9.kp a8 rl) hx10).mono ?_
        rintro e f1 ⟨f7, rfl⟩
        exact ⟨rfl, a8.trans f7, rfl⟩
       rw [hx10, andT_ok] at g
       refine (block_any g7 h9 (hO.kp a8 g7) (i9.kp a8 rl) hx10).mono ?_
       rintro e f1 ⟨f7, ⟨a, cap, rfl, j1, hZ⟩, e6⟩
       have e3 := b8.kp f7 j j
       have e7 := d0.kp f7 E E
       have e4 := a8.trans f7
       clear h9 a8 b8 d0 hx10 f7
       have i4 : StsL (fun c => w.heap.size ≤ c ∧ c ≠ y ∧ c ≠ w.heap.size) f1 a 0 d3 := StsL.weak (fun c hc => by have l2 : W9.heap.size ≤ c := hc; exact ⟨by omega, by omega, by omega⟩) hZ
       have k0 : StsL (fun c => w.heap.size ≤ c ∧ c ≠ y ∧ c ≠ w.heap.size) (f1.setCell ⟨y, 5, none⟩ (.slice a d3.length cap)) a 0 d3 := StsL.keep (fun c o v hc hv => by rw [← hv]; exact World.cellF_setCell_far f1 ⟨y, 5, none⟩ ⟨c, o, none⟩ _ (Ne.symm hc.2.1)) i4
       clear hZ i4
       have c5 := e3.cell 5
       have f5 := e3.frozen 5
       have e8 : Blk (f1.setCell ⟨y, 5, none⟩ (.slice a d3.length cap)) y 46 [.int .i64 6, .int .i64 C, .int .i64 A, .string x8, .int .i64 0, .slice a d3.length cap] := e3.set1 5 (.slice a d3.length cap)
       have f2 := e7.other b9 5 (.slice a d3.length cap)
       have f9 := rw_new HH.out e4 e6 F j 5 (.slice a d3.length cap)
       have g3 := e4.setNew F 5 (.slice a d3.length cap)
       clear e3 e7 e6 e4
       cases g
       have G : DeL (fun c => w.heap.size ≤ c ∧ c ≠ y ∧ c ≠ w.heap.size) (f1.setCell ⟨y, 5, none⟩ (.slice a d3.length cap)) [I 6, I C, I A, .string x8, I 0, .slice a d3.length cap] (mkDe 6 (C, A) x8 0 d3) := ⟨a, cap, rfl, j1, k0⟩
       have G := decl_told (y := y) HH.out g3 f9 f2 rfl rl e9 G
       have a7 : ∀ v ∈ ([I 6, I C, I A, .string x8, I 0, .slice a d3.length cap] : List Value), v.oneCell' = true := by
        intro v hv
        simp only [List.mem_cons, List.not_mem_nil, or_false] at hv
        rcases hv with rfl | rfl | rfl | rfl | rfl | rfl <;> rfl
       have K : ([I 6, I C, I A, .string x8, I 0, .slice a d3.length cap] : List Value).length = 6 := rfl
       obtain ⟨cs, a9⟩ : ∃ cs : List Value, [I 6, I C, I A, .string x8, I 0, .slice a d3.length cap] = cs := ⟨_, rfl⟩
       rw [a9] at G a7 K e8
       clear a9
       have d6 := O e8
       have HZ := O f2
       have HF := O G
       clear e8 f2 f9 g3 G
       go_wp2_with (first | (with_reducible refine l0 46 ?_; refine wpList_load_blk d5 d4 info55 rfl (.tmp 3) rfl y cs rfl d6 K ?_) | (with_reducible refine s0 46 ?_; refine wpList_store_blk info55 rfl (.tmp 2) (.tmp 112) rfl w.heap.size cs _ rfl rfl HZ rfl K a7 ?_))
       exact end_blk d5 d4 info55 HF.out.1 K rfl rfl rfl HF.out.2
      case false =>
       simp only [Bool.false_eq_true, if_false] at M
       rw [if_neg Bool.false_ne_true] at a3
       go_wp2_with fail
       rw [if_pos a3] at g
       cases g
       refine (fail_any M).mono ?_
       rintro e k6 ⟨rfl, hb⟩
       exact ⟨rfl, J.trans (kp_same hb), rfl⟩
end Go.Proofs.YtgppcdfgdaggjaaGreatDoor
