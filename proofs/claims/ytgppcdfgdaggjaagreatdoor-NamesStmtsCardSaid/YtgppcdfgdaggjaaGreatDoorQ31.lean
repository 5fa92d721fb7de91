/- Texts laid together. No condition but what each law says. -/
import Derived.Test.YtgppcdfgdaggjaaGreatDoorQ01
import Derived.Test.YtgppcdfgdaggjaaGreatDoorQ30
import Derived.Test.YtgppcdfgdaggjaaGreatDoorQ25
set_option maxRecDepth 100000
set_option maxHeartbeats 8000000
namespace Go.Proofs.YtgppcdfgdaggjaaGreatDoor
open Go.RowKit Go.Maps
theorem pdec_4 {B F g h j n0 i : Nat} {w W : World} {d : De} {bv : Value} {P : Pg} {v1 v2 v3 v4 v5 v6 v7 v0 v8 : Value} {D : PF} {v9 u0 u1 u2 u3 : Value} (Q : Hid (Dqp B F g h w j d bv P [v1, v2, v3, v4, v5, v6, v7, v0, v8] D W)) (HX : Hid (Blk W n0 104 [I d.kind, I 0])) (a8 : Hid (EEL W B j n0 [v1, v2, v3, v4, v5, v6, v7, v0, v8])) (b9 : B ≤ n0 ∧ n0 ≠ j) (hn : lkN D.L d.name = none) (hi : i ≤ 1000) (d5 : Hid (LnP P 1000)) (hk : d.kind = 4) {l2 : List Value} (hU : l2.length = 237 := by rfl) : Code.wp Tryz.prog (dropS 4 (Tryz.f37.body.getD .skip)) (bodyPost Tryz.prog Tryz.f37 (DPs B F g h D w (dcl P D.L D.ce i d))) ⟨(Pt F :: I i :: v9 :: u0 :: u1 :: Pt j :: u2 :: u3 :: Pt F :: Pt n0 :: l2).toArray, []⟩ W := by
 revert l2
 apply aN
 iterate 237 intro _
 change Code.wp _ _ _ _ _
 have e3 : Tryz.prog.follows .mixedOrders = true := by kernel_rfl
 have q0 : W.cell? ⟨j, 0, none⟩ = some (.int .i64 d.kind) := Q.out.d.cell 0
 rw [hk] at q0
 have q1 : W.cell? ⟨j, 1, none⟩ = some (.int .i64 d.line) := Q.out.d.cell 1
 have q2 : W.cell? ⟨j, 2, none⟩ = some (.int .i64 d.col) := Q.out.d.cell 2
 have q4 : W.cell? ⟨j, 4, none⟩ = some (.int .i64 d.num) := Q.out.d.cell 4
 have HN := O hn
 have a3 := O b9
 have e8 := O hi
 have a9 := O hk
 clear hn b9 hi
 obtain ⟨R, hR⟩ : ∃ R, dcl P D.L D.ce i d = R := ⟨_, rfl⟩
 rw [hR]
 have HR := O hR
 clear hR
 conv in (dropS _ _) => whnf
 refine wk fun KK e9 => ?_
 have f2 := O fun _ : True => (show (P.conds : Int) + 1 ≤ 100000 by have := d5.out.2; omega)
 have f0 : W.cell? ⟨F, 3, none⟩ = some (.int .i64 (P.conds : Int)) := Q.out.f.f.cell 3
 go_wp2_with (first
  | ((with_reducible refine at0 (.store 3 (.tmp 157) _) ?_); refine wpList_store_one info3 rfl (.tmp 157) (.tmp 156) rfl n0 1 104 (I P.conds) _ rfl rfl rfl rfl HX.out (by simp) ?_; intro W3 k3 c3; have d9 := O (Q.out.ch c3 a3.out.1 a3.out.2 (fun k e => (a8.out k _ e).2.2.1 rfl)); have c8 : Hid (Blk W3 n0 104 [.int .i64 d.kind, .int .i64 (P.conds : Int)]) := O k3; have d1 := O (a8.out.up (Nat.le_of_eq c3.size.symm)); clear k3 c3 Q HX a8 f0 q0 q1 q2 q4)
  | fail)
 obtain ⟨J, hV⟩ : ∃ J, W3.drew = J := ⟨_, rfl⟩
 have H : Hid (Dqp B F g h w j d bv P [v1, v2, v3, v4, v5, v6, v7, v0, v8] D J) := O (by rw [← hV]; exact d9.out.below (Below.refl _ _).drew)
 have b4 : Hid (Blk J n0 104 [I d.kind, I P.conds]) := O (by rw [← hV]; exact c8.out.drew)
 have d6 : Hid (EEL J B j n0 [v1, v2, v3, v4, v5, v6, v7, v0, v8]) := O (by rw [← hV]; exact d1.out)
 clear d9 c8 d1
 obtain ⟨C, hC⟩ : ∃ C, pcC P [v1, v2, v3, v4, v5, v6, v7, v0, v8] ++ pfT g h D = C := ⟨_, rfl⟩
 have HC := O hC
 have A : Hid (Blk J F 101 C ∧ Blk J j 46 (dcCs d bv)) := O ⟨by rw [← hC]; exact H.out.f.f, H.out.d⟩
 clear hC
 obtain ⟨i9, z9, d3, d2, e2, b8, e6⟩ := info_el infoStr
 have d4 : Tryz.prog.underlying 26 = some (.slice 9) := by kernel_rfl
 refine wp_region_x [1, 18, 19, 20, 21, 22] (fun W => Blk W F 101 C ∧ Blk W j 46 (dcCs d bv)) e3 ?_
 rw [hV]
 clear hV
 refine wpX_takeP 1 (some 159) (v := ?_) rfl rfl (by kernel_rfl) (fun _ _ _ h => h) (Or.inl ⟨by rfl, ?_⟩) ?_
 rotate_left
 ·intro G E
  clear E
  go_simp
  first | with_reducible rfl | rw [if_neg (by omega)]
 refine tk3 0 (some 158) A ?_
 refine tk3 2 (some 160) A ?_
 refine tk3 3 (some 161) A ?_
 refine nm ?_
 refine tk3 4 (some 162) A ?_
 refine tf3 (fun G => G.cell? ⟨F, 3, none⟩ = some (.int .i64 (P.conds : Int))) 5 (some 163) A (fun G E => (E.1.cell 3).trans (by rw [← HC.out]; rfl)) ?_
 refine tk3 6 (some 164) A ?_
 refine tk3 7 (some 165) A ?_
 refine nm ?_
 refine tk3 8 (some 166) A ?_
 refine tk3 9 (some 167) A ?_
 refine tk3 10 (some 168) A ?_
 refine tf3 (fun G => G.cell? ⟨F, 11, none⟩ = some v0) 11 (some 169) A (fun G E => (E.1.cell 11).trans (by rw [← HC.out]; rfl)) ?_
 refine nm ?_
 refine tk3 12 (some 170) A ?_
 refine tf3 (fun G => G.cell? ⟨j, 3, none⟩ = some (.string d.name)) 13 (some 171) A (fun G E => E.2.cell 3) ?_
 refine nm ?_
 refine oD 14 fun a1 Z => ?_
 refine wp_build1 (.tmp 171) rfl d4 d3 d2 e2 b8 (by decide) (by decide) (.string d.name) (cS d.name) rfl rfl rfl ?_
 intro Wb kb bb sb
 have U := O (And.intro kb bb)
 have e4 : Hid (Blk Wb F 101 C ∧ Blk Wb j 46 (dcCs d bv)) := O ⟨A.out.1.below bb, A.out.2.below bb⟩
 clear kb bb sb
 change a1 (Act.put _ (some 172) _) Wb
 refine Z _ _ (fun _ => e4.out) ?_
 clear Z a1
 refine nm ?_
 refine oD 15 fun a1 Z => ?_
 have e1 := H.out.lt
 have a6 := d6.out
 refine wp_append_at (elV 9 1) (.tmp 169) (.tmp 172) 26 rfl i9 z9 d4 d3 d2 e2 b8 (by decide) e6 B Wb v0 _ rfl ((H.out.s.gr 7 (by decide)).below U.out.2) (cS d.name) (cS d.name) (cS_L _ _ _ _) _ 9 U.out.1 rfl (Nat.le_trans (d5.out.1 7) (by decide)) (by have := U.out.2.size; omega) ?_
 intro g1 k1 V c9 d0 b7 e0
 have a0 : ∀ c, c < J.heap.size → v0.ownBlock ≠ some c → V.heap[c]? = J.heap[c]? := fun c X f1 => (b7 c (Nat.lt_of_lt_of_le X U.out.2.size) f1).trans (U.out.2.block c X)
 have b6 := O (H.out.s.set1 (by decide : 7 < 9) c9 a0 (fun c X => by
  cases X
  rcases e0 with N | N
  ·exact .inl N
  ·exact .inr (by rw [N]; exact U.out.2.size)))
 have a7 : ∀ c, c < B → V.heap[c]? = J.heap[c]? := fun c X => a0 c (by omega) (fun e => by have := (a6 7 c e).1; omega)
 have S : Hid (Blk V F 101 C ∧ Blk V j 46 (dcCs d bv) ∧ Blk V n0 104 [I d.kind, I P.conds]) := O ⟨A.out.1.of (a7 F (by omega)), A.out.2.of (a0 j e1.2.2.2.2 (fun e => (a6 7 _ e).2.1 rfl)), b4.out.of (a0 n0 b4.out.lt (fun e => (a6 7 _ e).2.2.1 rfl))⟩
 have a5 := O (And.intro ((U.out.2.mono (by omega)).trans d0) (And.intro (a7 g (by omega)) (a7 h (by omega))))
 obtain ⟨Y, a4⟩ : ∃ z, Value.slice (some ⟨g1, 0, none⟩) (((lsP P).getD 7 []).length + 1) k1 = z := ⟨_, rfl⟩
 have HZ : Hid (Y.cells = #[Y] ∧ Y.oneCell' = true) := O (by rw [← a4]; exact ⟨rfl, rfl⟩)
 rw [a4] at b6
 rw [a4]
 have b5 := O (And.intro S.out.1 S.out.2.1)
 change a1 (Act.put _ (some 173) _) V
 refine Z _ _ (fun _ => b5.out) ?_
 clear Z a1 c9 d0 b7 e0 a0 a7 e1 a6 a4
 refine nm ?_
 refine tk3 16 (some 174) b5 ?_
 refine tk3 17 (some 175) b5 ?_
 refine nm ?_
 refine wpX_store1 18 (by kernel_rfl) rfl rfl rfl rfl info3 (.tmp 175) (.tmp 164) rfl F 3 101 (I ((P.conds + 1 : Nat) : Int)) C rfl (by refine congrArg (Value.int IntKind.i64) ?_; have := f2.out trivial; first | omega | (rw [IntWalk.i64_in _ (by omega)]; omega)) rfl rfl S.out.1 (by rw [← HC.out]; simp [pcC, pfT]) ?_
 intro W5 k5 c5
 have K := O (And.intro k5 c5)
 clear k5 c5
 refine wpX_takeP 19 (some 176) (v := ?_) rfl rfl (by kernel_rfl) (fun _ _ _ h => h) (Or.inl ⟨by rfl, ?_⟩) ?_
 rotate_left
 ·intro G E
  clear E
  go_simp
  first | with_reducible rfl | rw [if_neg (by omega)]
 refine wpX_takeP 20 (some 177) (v := ?_) rfl rfl (by kernel_rfl) (fun _ _ _ h => h) (Or.inl ⟨by rfl, ?_⟩) ?_
 rotate_left
 ·intro G E
  clear E
  go_simp
  first | with_reducible rfl | rw [if_neg (by omega)]
 refine wpX_takeP 21 (some 178) (v := ?_) rfl rfl (by kernel_rfl) (fun _ _ _ h => h) (Or.inl ⟨by rfl, ?_⟩) ?_
 rotate_left
 ·intro G E
  clear E
  go_simp
  first | with_reducible rfl | rw [if_neg (by omega)]
 refine nm ?_
 refine wpX_store1 22 (by kernel_rfl) rfl rfl rfl rfl info26 (.tmp 178) (.tmp 173) rfl F 11 101 Y (C.set 3 (I ((P.conds + 1 : Nat) : Int))) rfl rfl HZ.out.1 HZ.out.2 K.out.1 (by rw [← HC.out]; simp [pcC, pfT]) ?_
 intro W6 k6 c6
 have M := O (And.intro k6 c6)
 clear k6 c6
 try simp only [Act.put]
 refine dn ?_
 have hC := HC.out
 have hF : F < B := H.out.lt.1
 have a2 := H.out.lt
 have d7 := H.out.f.fg
 have d8 := H.out.f.fh
 have e5 : Hid (Dqp B F g h w j d bv { P with conds := P.conds + 1, nc := P.nc ++ [d.name] } ([v1, v2, v3, v4, v5, v6, v7, v0, v8].set 7 Y) D W6) := O ⟨((H.out.k.below a5.out.1).ch K.out.2).ch M.out.2, H.out.f.pc rfl (by have N := M.out.1; rw [← hC] at N; exact N) ((M.out.2.hpc (fun e => d7 e.symm)).trans ((K.out.2.hpc (fun e => d7 e.symm)).trans a5.out.2.1)) ((M.out.2.hpc (fun e => d8 e.symm)).trans ((K.out.2.hpc (fun e => d8 e.symm)).trans a5.out.2.2)), by have N := (b6.out.ch K.out.2 (.inl hF)).ch M.out.2 (.inl hF); simpa [lsP, cS] using N, M.out.2.blk (by omega) (K.out.2.blk (by omega) S.out.2.1), by rw [M.out.2.size, K.out.2.size]; exact ⟨a2.1, a2.2.1, a2.2.2.1, a2.2.2.2.1, S.out.2.1.lt⟩⟩
 have e7 := O (M.out.2.blk (by have := a3.out; omega) (K.out.2.blk (by have := a3.out; omega) S.out.2.2))
 clear K M S b6 a5 H b4 d6 A
 go_wp2_with fail
 refine e9.out _ _ ?_
 exact pdec_end e5 e7 HN.out (by rw [a9.out]; decide) e8.out ⟨rfl, rfl, rfl⟩ (O (HR.out.symm.trans ((dcl_k4 HN.out a9.out).trans (by rw [a9.out]))))
end Go.Proofs.YtgppcdfgdaggjaaGreatDoor
set_option maxRecDepth 100000
set_option maxHeartbeats 8000000
namespace Go.Proofs.YtgppcdfgdaggjaaGreatDoor
open Go.RowKit Go.Maps
theorem pdec_5 {B F g h j n0 i : Nat} {w W : World} {d : De} {bv : Value} {P : Pg} {v1 v2 v8 v3 v4 v5 v6 v7 v0 : Value} {D : PF} {v9 u0 u1 u2 u3 : Value} (HQ : Hid (Dqp B F g h w j d bv P [v1, v2, v8, v3, v4, v5, v6, v7, v0] D W)) (HX : Hid (Blk W n0 104 [I d.kind, I 0])) (d2 : Hid (EEL W B j n0 [v1, v2, v8, v3, v4, v5, v6, v7, v0])) (c8 : B ≤ n0 ∧ n0 ≠ j) (hn : lkN D.L d.name = none) (hi : i ≤ 1000) (d7 : Hid (LnP P 1000)) (hk : d.kind = 5) {l2 : List Value} (hU : l2.length = 237 := by rfl) : Code.wp Tryz.prog (dropS 4 (Tryz.f37.body.getD .skip)) (bodyPost Tryz.prog Tryz.f37 (DPs B F g h D w (dcl P D.L D.ce i d))) ⟨(Pt F :: I i :: v9 :: u0 :: u1 :: Pt j :: u2 :: u3 :: Pt F :: Pt n0 :: l2).toArray, []⟩ W := by
 revert l2
 apply aN
 iterate 237 intro _
 change Code.wp _ _ _ _ _
 have e7 : Tryz.prog.follows .mixedOrders = true := by kernel_rfl
 have q0 : W.cell? ⟨j, 0, none⟩ = some (.int .i64 d.kind) := HQ.out.d.cell 0
 rw [hk] at q0
 have q1 : W.cell? ⟨j, 1, none⟩ = some (.int .i64 d.line) := HQ.out.d.cell 1
 have q2 : W.cell? ⟨j, 2, none⟩ = some (.int .i64 d.col) := HQ.out.d.cell 2
 have q4 : W.cell? ⟨j, 4, none⟩ = some (.int .i64 d.num) := HQ.out.d.cell 4
 have HN := O hn
 have a3 := O c8
 have f1 := O hi
 have a4 := O hk
 clear hn c8 hi
 obtain ⟨R, hR⟩ : ∃ R, dcl P D.L D.ce i d = R := ⟨_, rfl⟩
 rw [hR]
 have HR := O hR
 clear hR
 conv in (dropS _ _) => whnf
 refine wk fun KK f2 => ?_
 have e4 := pbound_any d.num 1 16 (d.line, d.col) W
 go_wp2_with fail
 refine e4.mono ?_
 clear e4 q0 q1 q2 q4
 rintro e W2 ⟨hb, he⟩
 have a0 := O (HQ.out.below hb)
 have e5 := O (HX.out.below hb)
 have a8 := O (d2.out.up hb.size)
 clear HQ HX d2 hb
 by_cases b6 : d.num < 1 ∨ 16 < d.num
 ·rw [if_pos b6] at he
  have hq : R = .error ((d.line, d.col), 134) := HR.out.symm.trans (dcl_k5e HN.out a4.out (by omega))
  rw [hq, he]
  exact ⟨rfl, a0.out.k, rfl⟩
 rw [if_neg b6] at he
 subst he
 obtain ⟨X, Y, f4, e8⟩ := (a0.out.s.gr 2 (by decide)).form
 obtain rfl : v8 = .slice X ((lsP P).getD 2 []).length Y := f4
 obtain ⟨K, b5⟩ : ∃ n, ((lsP P).getD 2 []).length = n := ⟨_, rfl⟩
 have e6 := O b5
 rw [b5] at a0 a8
 clear e8 b5
 have f3 : W2.cell? ⟨F, 4, none⟩ = some (.slice X K Y) := a0.out.f.f.cell 4
 go_wp2_with (first
  | ((with_reducible refine at0 (.store 3 (.tmp 191) _) ?_); refine wpList_store_one info3 rfl (.tmp 191) (.tmp 190) rfl n0 1 104 (I K) _ rfl rfl rfl rfl e5.out (by simp) ?_; intro W3 k3 c3; have e2 := O (a0.out.ch c3 a3.out.1 a3.out.2 (fun k e => (a8.out k _ e).2.2.1 rfl)); have c9 : Hid (Blk W3 n0 104 [.int .i64 d.kind, .int .i64 (K : Int)]) := O k3; have d5 := O (a8.out.up (Nat.le_of_eq c3.size.symm)); clear k3 c3 a0 e5 a8 f3)
  | fail)
 obtain ⟨V, hV⟩ : ∃ V, W3.drew = V := ⟨_, rfl⟩
 have G : Hid (Dqp B F g h w j d bv P [v1, v2, .slice X K Y, v3, v4, v5, v6, v7, v0] D V) := O (by rw [← hV]; exact e2.out.below (Below.refl _ _).drew)
 have b4 : Hid (Blk V n0 104 [I d.kind, I K]) := O (by rw [← hV]; exact c9.out.drew)
 have d8 : Hid (EEL V B j n0 [v1, v2, .slice X K Y, v3, v4, v5, v6, v7, v0]) := O (by rw [← hV]; exact d5.out)
 clear e2 c9 d5
 obtain ⟨C, hC⟩ : ∃ C, pcC P [v1, v2, .slice X K Y, v3, v4, v5, v6, v7, v0] ++ pfT g h D = C := ⟨_, rfl⟩
 have HC := O hC
 have A : Hid (Blk V F 101 C ∧ Blk V j 46 (dcCs d bv)) := O ⟨by rw [← hC]; exact G.out.f.f, G.out.d⟩
 clear hC
 refine wp_region_x [1, 21, 22, 23, 24, 25] (fun W => Blk W F 101 C ∧ Blk W j 46 (dcCs d bv)) e7 ?_
 rw [hV]
 clear hV
 refine wpX_takeP 1 (some 193) (v := ?_) rfl rfl (by kernel_rfl) (fun _ _ _ h => h) (Or.inl ⟨by rfl, ?_⟩) ?_
 rotate_left
 ·intro H N
  clear N
  go_simp
  first | with_reducible rfl | rw [if_neg (by omega)]
 refine tk3 0 (some 192) A ?_
 refine tk3 2 (some 194) A ?_
 refine tk3 3 (some 195) A ?_
 refine nm ?_
 refine tk3 4 (some 196) A ?_
 refine tf3 (fun H => H.cell? ⟨F, 4, none⟩ = some (.slice X K Y)) 5 (some 197) A (fun H N => (N.1.cell 4).trans (by rw [← HC.out]; rfl)) ?_
 refine tk3 6 (some 198) A ?_
 refine tf3 (fun H => H.cell? ⟨j, 4, none⟩ = some (.int .i64 d.num)) 7 (some 199) A (fun H N => N.2.cell 4) ?_
 refine nm ?_
 refine tk3 10 (some 202) A ?_
 refine tk3 11 (some 203) A ?_
 refine tk3 12 (some 204) A ?_
 refine tk3 13 (some 205) A ?_
 refine nm ?_
 refine tf3 (fun H => H.cell? ⟨F, 12, none⟩ = some v0) 14 (some 206) A (fun H N => (N.1.cell 12).trans (by rw [← HC.out]; rfl)) ?_
 refine tk3 15 (some 207) A ?_
 refine tf3 (fun H => H.cell? ⟨j, 3, none⟩ = some (.string d.name)) 16 (some 208) A (fun H N => N.2.cell 3) ?_
 simp only [Act.put, List.setIfInBounds_toArray, List.set_cons_zero, List.set_cons_succ]
 have b7 := G.out.lt
 have d0 := G.out.s.ap
 have J := d8.out
 refine wpX_app2 (E1 := elV 3 1) (E2 := elV 9 1) (B := B) 8 9 17 18 200 201 209 210 24 26 197 199 206 208 ⟨rfl, rfl, rfl, rfl⟩ ⟨rfl, rfl, rfl, rfl⟩ ⟨rfl, rfl, rfl, rfl⟩ (by kernel_rfl) (by kernel_rfl) (by kernel_rfl) (by kernel_rfl) (by kernel_rfl) (by kernel_rfl) (by decide) ⟨rfl, rfl, rfl, rfl⟩ rfl (by decide) elT24 elT26 (elV_flat _ _) (elV_flat _ _) rfl rfl (G.out.s.gr 2 (by decide)) (G.out.s.gr 8 (by decide)) (fun c U => d0 2 8 c (by decide) U) (I d.num) (.string d.name) (cI d.num) (cS d.name) (cI d.num) (cS d.name) rfl rfl ⟨rfl, rfl⟩ (fun _ _ => cI_L _ _ _ _) (fun _ _ => cS_L _ _ _ _) ⟨Nat.le_trans (d7.out.1 2) (by decide), Nat.le_trans (d7.out.1 8) (by decide)⟩ (by omega) (fun W hk => ⟨A.out.1.of (hk F (by omega) (fun e => by have := (J 2 F e).1; omega) (fun e => by have := (J 8 F e).1; omega)), A.out.2.of (hk j b7.2.2.2.2 (fun e => (J 2 _ e).2.1 rfl) (fun e => (J 8 _ e).2.1 rfl))⟩) ?_
 intro f5 v9 g1 k1 g2 k2 W4 d1 d6 d4 a1 e3 b9 e1
 have b8 := O (G.out.s.set2 (by decide : 2 < 9) (by decide : 8 < 9) (by decide) d1 d6 a1 (fun c U => by cases U; exact e3) (fun c U => by cases U; exact b9) (fun c U e => by cases U; cases e; exact e1 rfl))
 have a9 : ∀ c, c < B → W4.heap[c]? = V.heap[c]? := fun c U => a1 c (by omega) (fun e => by have := (J 2 c e).1; omega) (fun e => by have := (J 8 c e).1; omega)
 have Z : Hid (Blk W4 F 101 C ∧ Blk W4 j 46 (dcCs d bv) ∧ Blk W4 n0 104 [I d.kind, I K]) := O ⟨A.out.1.of (a9 F (by omega)), A.out.2.of (a1 j b7.2.2.2.2 (fun e => (J 2 _ e).2.1 rfl) (fun e => (J 8 _ e).2.1 rfl)), b4.out.of (a1 n0 b4.out.lt (fun e => (J 2 _ e).2.2.1 rfl) (fun e => (J 8 _ e).2.2.1 rfl))⟩
 have a7 := O (And.intro d4 (And.intro (a9 g (by omega)) (a9 h (by omega))))
 obtain ⟨z1, a6⟩ : ∃ z, Value.slice (some ⟨g1, 0, none⟩) (((lsP P).getD 2 []).length + 1) k1 = z := ⟨_, rfl⟩
 obtain ⟨z2, a5⟩ : ∃ z, Value.slice (some ⟨g2, 0, none⟩) (((lsP P).getD 8 []).length + 1) k2 = z := ⟨_, rfl⟩
 have HZ : Hid ((z1.cells = #[z1] ∧ z1.oneCell' = true) ∧ (z2.cells = #[z2] ∧ z2.oneCell' = true)) := O ⟨by rw [← a6]; exact ⟨rfl, rfl⟩, by rw [← a5]; exact ⟨rfl, rfl⟩⟩
 rw [a6, a5] at b8
 rw [a6, a5]
 have d3 := O (And.intro Z.out.1 Z.out.2.1)
 clear d1 d6 d4 a1 e3 b9 e1 a9 b7 d0 J a6 a5
 refine nm ?_
 refine tk3 19 (some 211) d3 ?_
 refine tk3 20 (some 212) d3 ?_
 refine nm ?_
 refine oD 21 fun Q E => ?_
 refine wp_store_one info24 (.tmp 212) (.tmp 201) rfl F 4 101 z1 C rfl rfl HZ.out.1.1 HZ.out.1.2 Z.out.1 (by rw [← HC.out]; simp [pcC, pfT]) ?_
 intro W5 k5 c5
 have M := O (And.intro k5 c5)
 clear k5 c5
 refine E _ _ (fun h => by cases h) ?_
 clear E Q
 refine oD 22 fun Q E => ?_
 go_simp
 refine E _ _ (fun h => by cases h) ?_
 clear E Q
 refine oD 23 fun Q E => ?_
 go_simp
 refine E _ _ (fun h => by cases h) ?_
 clear E Q
 refine oD 24 fun Q E => ?_
 go_simp
 refine E _ _ (fun h => by cases h) ?_
 clear E Q
 refine oD 25 fun Q E => ?_
 refine wp_store_one info26 (.tmp 215) (.tmp 210) rfl F 12 101 z2 (C.set 4 z1) rfl rfl HZ.out.2.1 HZ.out.2.2 M.out.1 (by rw [← HC.out]; simp [pcC, pfT]) ?_
 intro W6 k6 c6
 have S := O (And.intro k6 c6)
 clear k6 c6
 refine E _ _ (fun h => by cases h) ?_
 clear E Q
 try simp only [Act.put]
 refine dn ?_
 have hC := HC.out
 have hF : F < B := G.out.lt.1
 have a2 := G.out.lt
 have d9 := G.out.f.fg
 have e0 := G.out.f.fh
 have e9 : Hid (Dqp B F g h w j d bv { P with chans := P.chans ++ [d.num], nh := P.nh ++ [d.name] } (([v1, v2, .slice X K Y, v3, v4, v5, v6, v7, v0].set 2 z1).set 8 z2) D W6) := O ⟨((G.out.k.below a7.out.1).ch M.out.2).ch S.out.2, G.out.f.pc rfl (by have h1 := S.out.1; rw [← hC] at h1; exact h1) ((S.out.2.hpc (fun e => d9 e.symm)).trans ((M.out.2.hpc (fun e => d9 e.symm)).trans a7.out.2.1)) ((S.out.2.hpc (fun e => e0 e.symm)).trans ((M.out.2.hpc (fun e => e0 e.symm)).trans a7.out.2.2)), by have h1 := (b8.out.ch M.out.2 (.inl hF)).ch S.out.2 (.inl hF); simpa [lsP, cI, cS] using h1, S.out.2.blk (by omega) (M.out.2.blk (by omega) Z.out.2.1), by rw [S.out.2.size, M.out.2.size]; exact ⟨a2.1, a2.2.1, a2.2.2.1, a2.2.2.2.1, Z.out.2.1.lt⟩⟩
 have f0 := O (S.out.2.blk (by have := a3.out; omega) (M.out.2.blk (by have := a3.out; omega) Z.out.2.2))
 clear M S Z b8 a7 G b4 d8 A
 go_wp2_with fail
 refine f2.out _ _ ?_
 exact pdec_end e9 f0 HN.out (by rw [a4.out]; decide) f1.out ⟨rfl, rfl, rfl⟩ (O (HR.out.symm.trans ((dcl_k5 HN.out a4.out b6).trans (by rw [a4.out, e6.out.symm]; simp [lsP]))))
end Go.Proofs.YtgppcdfgdaggjaaGreatDoor
set_option maxRecDepth 100000
set_option maxHeartbeats 8000000
namespace Go.Proofs.YtgppcdfgdaggjaaGreatDoor
open Go.RowKit Go.Maps
theorem pdec_6 {B F g h j n0 i : Nat} {w W : World} {d : De} {bv : Value} {P : Pg} {v0 v1 v2 v8 v3 v4 v5 v6 v7 : Value} {D : PF} {v9 u0 u1 u2 u3 : Value} (K : Hid (Dqp B F g h w j d bv P [v0, v1, v2, v8, v3, v4, v5, v6, v7] D W)) (HX : Hid (Blk W n0 104 [I d.kind, I 0])) (a3 : Hid (EEL W B j n0 [v0, v1, v2, v8, v3, v4, v5, v6, v7])) (c9 : B ≤ n0 ∧ n0 ≠ j) (hn : lkN D.L d.name = none) (hi : i ≤ 1000) (f3 : Hid (LnP P 1000)) (hk : d.kind = 6) {l2 : List Value} (hU : l2.length = 237 := by rfl) : Code.wp Tryz.prog (dropS 4 (Tryz.f37.body.getD .skip)) (bodyPost Tryz.prog Tryz.f37 (DPs B F g h D w (dcl P D.L D.ce i d))) ⟨(Pt F :: I i :: v9 :: u0 :: u1 :: Pt j :: u2 :: u3 :: Pt F :: Pt n0 :: l2).toArray, []⟩ W := by
 revert l2
 apply aN
 iterate 237 intro _
 change Code.wp _ _ _ _ _
 have e3 : Tryz.prog.follows .mixedOrders = true := by kernel_rfl
 have q0 : W.cell? ⟨j, 0, none⟩ = some (.int .i64 d.kind) := K.out.d.cell 0
 rw [hk] at q0
 have q1 : W.cell? ⟨j, 1, none⟩ = some (.int .i64 d.line) := K.out.d.cell 1
 have q2 : W.cell? ⟨j, 2, none⟩ = some (.int .i64 d.col) := K.out.d.cell 2
 have q4 : W.cell? ⟨j, 4, none⟩ = some (.int .i64 d.num) := K.out.d.cell 4
 have HN := O hn
 have a8 := O c9
 have e9 := O hi
 have a9 := O hk
 clear hn c9 hi
 obtain ⟨R, hR⟩ : ∃ R, dcl P D.L D.ce i d = R := ⟨_, rfl⟩
 rw [hR]
 have HR := O hR
 clear hR
 conv in (dropS _ _) => whnf
 refine wk fun KK f0 => ?_
 obtain ⟨J, M, f2, e5⟩ := (K.out.s.gr 3 (by decide)).form
 obtain rfl : v8 = .slice J ((lsP P).getD 3 []).length M := f2
 obtain ⟨E, b6⟩ : ∃ n, ((lsP P).getD 3 []).length = n := ⟨_, rfl⟩
 have e2 := O b6
 rw [b6] at K a3
 clear e5 b6
 have f1 : W.cell? ⟨F, 5, none⟩ = some (.slice J E M) := K.out.f.f.cell 5
 go_wp2_with (first
  | ((with_reducible refine at0 (.store 3 (.tmp 223) _) ?_); refine wpList_store_one info3 rfl (.tmp 223) (.tmp 222) rfl n0 1 104 (I E) _ rfl rfl rfl rfl HX.out (by simp) ?_; intro W3 k3 c3; have d7 := O (K.out.ch c3 a8.out.1 a8.out.2 (fun k e => (a3.out k _ e).2.2.1 rfl)); have d0 : Hid (Blk W3 n0 104 [.int .i64 d.kind, .int .i64 (E : Int)]) := O k3; have d3 := O (a3.out.up (Nat.le_of_eq c3.size.symm)); clear k3 c3 K HX a3 f1)
  | fail)
 obtain ⟨H, hV⟩ : ∃ H, W3.drew = H := ⟨_, rfl⟩
 have G : Hid (Dqp B F g h w j d bv P [v0, v1, v2, .slice J E M, v3, v4, v5, v6, v7] D H) := O (by rw [← hV]; exact d7.out.below (Below.refl _ _).drew)
 have b4 : Hid (Blk H n0 104 [I d.kind, I E]) := O (by rw [← hV]; exact d0.out.drew)
 have d6 : Hid (EEL H B j n0 [v0, v1, v2, .slice J E M, v3, v4, v5, v6, v7]) := O (by rw [← hV]; exact d3.out)
 clear d7 d0 d3
 obtain ⟨C, hC⟩ : ∃ C, pcC P [v0, v1, v2, .slice J E M, v3, v4, v5, v6, v7] ++ pfT g h D = C := ⟨_, rfl⟩
 have HC := O hC
 have A : Hid (Blk H F 101 C ∧ Blk H j 46 (dcCs d bv)) := O ⟨by rw [← hC]; exact G.out.f.f, G.out.d⟩
 clear hC
 obtain ⟨i9, z9, e0, d5, d4, e1, c8, f7, f8, e7⟩ := elT25
 refine wp_region_x [12] (fun W => Blk W F 101 C ∧ Blk W j 46 (dcCs d bv)) e3 ?_
 rw [hV]
 clear hV
 refine tk 0 (some 224) A ?_
 refine tk 1 (some 225) A ?_
 refine tk 2 (some 226) A ?_
 refine tk 3 (some 227) A ?_
 refine nm ?_
 refine tf (fun W1 => W1.cell? ⟨F, 5, none⟩ = some (.slice J E M)) 4 (some 228) A (fun W1 b7 => (b7.1.cell 5).trans (by rw [← HC.out]; rfl)) ?_
 refine tk 5 (some 229) A ?_
 refine tf (fun W1 => W1.cell? ⟨j, 3, none⟩ = some (.string d.name)) 6 (some 230) A (fun W1 b7 => b7.2.cell 3) ?_
 refine tk 7 (some 231) A ?_
 refine nm ?_
 refine oD 8 fun a1 Z => ?_
 refine wp_build1 (.tmp 231) rfl e0 d5 d4 e1 c8 (by decide) (by decide) (.agg #[.string d.name, I 0, .slice none 0 0]) [.string d.name, I 0, .slice none 0 0] rfl rfl rfl ?_
 intro Wb kb bb sb
 have U := O (And.intro kb bb)
 have e4 : Hid (Blk Wb F 101 C ∧ Blk Wb j 46 (dcCs d bv)) := O ⟨A.out.1.below bb, A.out.2.below bb⟩
 clear kb bb sb
 change a1 (Act.put _ (some 232) _) Wb
 refine Z _ _ (fun _ => e4.out) ?_
 clear Z a1
 refine nm ?_
 refine oD 9 fun a1 Z => ?_
 have d9 := G.out.lt
 have a6 := d6.out
 refine wp_append_at (elV 71 3) (.tmp 228) (.tmp 232) 25 rfl i9 z9 e0 d5 d4 e1 c8 (by decide) e7 B Wb (.slice J E M) _ rfl ((G.out.s.gr 3 (by decide)).below U.out.2) [.string d.name, I 0, .slice none 0 0] [.string d.name, I 0, .slice none 0 0] ⟨rfl, rfl, fun v hv => by
  simp only [List.mem_cons, List.not_mem_nil, or_false] at hv
  rcases hv with rfl | rfl | rfl <;> rfl⟩ _ 71 U.out.1 rfl (Nat.le_trans (f3.out.1 3) (by decide)) (by have := U.out.2.size; omega) ?_
 intro g1 k1 V d1 d2 b9 d8
 have a0 : ∀ c, c < H.heap.size → (Value.slice J E M).ownBlock ≠ some c → V.heap[c]? = H.heap[c]? := fun c X f6 => (b9 c (Nat.lt_of_lt_of_le X U.out.2.size) f6).trans (U.out.2.block c X)
 have b8 := O (G.out.s.set1 (by decide : 3 < 9) d1 a0 (fun c X => by
  cases X
  rcases d8 with Q | Q
  ·exact .inl Q
  ·exact .inr (by rw [Q]; exact U.out.2.size)))
 have a7 : ∀ c, c < B → V.heap[c]? = H.heap[c]? := fun c X => a0 c (by omega) (fun e => by have := (a6 3 c e).1; omega)
 have S : Hid (Blk V F 101 C ∧ Blk V j 46 (dcCs d bv) ∧ Blk V n0 104 [I d.kind, I E]) := O ⟨A.out.1.of (a7 F (by omega)), A.out.2.of (a0 j d9.2.2.2.2 (fun e => (a6 3 _ e).2.1 rfl)), b4.out.of (a0 n0 b4.out.lt (fun e => (a6 3 _ e).2.2.1 rfl))⟩
 have a5 := O (And.intro ((U.out.2.mono (by omega)).trans d2) (And.intro (a7 g (by omega)) (a7 h (by omega))))
 obtain ⟨Y, a4⟩ : ∃ z, Value.slice (some ⟨g1, 0, none⟩) (((lsP P).getD 3 []).length + 1) k1 = z := ⟨_, rfl⟩
 have HZ : Hid (Y.cells = #[Y] ∧ Y.oneCell' = true) := O (by rw [← a4]; exact ⟨rfl, rfl⟩)
 rw [a4] at b8
 rw [a4]
 have b5 := O (And.intro S.out.1 S.out.2.1)
 change a1 (Act.put _ (some 233) _) V
 refine Z _ _ (fun _ => b5.out) ?_
 clear Z a1 d1 d2 b9 d8 a0 a7 d9 a6 a4
 refine nm ?_
 refine tk 10 (some 234) b5 ?_
 refine tk 11 (some 235) b5 ?_
 refine nm ?_
 refine wpX_store1 12 (by kernel_rfl) rfl rfl rfl rfl info25 (.tmp 235) (.tmp 233) rfl F 5 101 Y C rfl rfl HZ.out.1 HZ.out.2 S.out.1 (by rw [← HC.out]; simp [pcC, pfT]) ?_
 intro W6 k6 c6
 have N := O (And.intro k6 c6)
 clear k6 c6
 try simp only [Act.put]
 refine dn ?_
 have hC := HC.out
 have hF : F < B := G.out.lt.1
 have a2 := G.out.lt
 have f4 := G.out.f.fg
 have f5 := G.out.f.fh
 have e6 : Hid (Dqp B F g h w j d bv { P with threads := P.threads ++ [Th.mk d.name 0 []] } ([v0, v1, v2, .slice J E M, v3, v4, v5, v6, v7].set 3 Y) D W6) := O ⟨(G.out.k.below a5.out.1).ch N.out.2, G.out.f.pc rfl (by have Q := N.out.1; rw [← hC] at Q; exact Q) ((N.out.2.hpc (fun e => f4 e.symm)).trans a5.out.2.1) ((N.out.2.hpc (fun e => f5 e.symm)).trans a5.out.2.2), by have Q := b8.out.ch N.out.2 (.inl hF); simpa [lsP, cT, nilV] using Q, N.out.2.blk (by omega) S.out.2.1, by rw [N.out.2.size]; exact ⟨a2.1, a2.2.1, a2.2.2.1, a2.2.2.2.1, S.out.2.1.lt⟩⟩
 have e8 := O (N.out.2.blk (by have := a8.out; omega) S.out.2.2)
 clear N S b8 a5 G b4 d6 A
 go_wp2_with fail
 refine f0.out _ _ ?_
 exact pdec_end e6 e8 HN.out (by rw [a9.out]; decide) e9.out ⟨rfl, rfl, rfl⟩ (O (HR.out.symm.trans ((dcl_k6 HN.out a9.out).trans (by rw [a9.out, e2.out.symm]; simp [lsP]))))
end Go.Proofs.YtgppcdfgdaggjaaGreatDoor
set_option maxRecDepth 100000
set_option maxHeartbeats 8000000
namespace Go.Proofs.YtgppcdfgdaggjaaGreatDoor
open Go.RowKit Go.Maps
theorem pdec_any {B F g h : Nat} {w : World} {P : Pg} {vs : List Value} {D : PF} (d : De) (bv : Value) (i : Nat) (H : Fi w F g h (pcC P vs) D) (hG : Gs B w vs (lsP P)) (a3 : F < B ∧ g < B ∧ h < B ∧ B ≤ w.heap.size) (b9 : bv.oneCell' = true) (j : 1 ≤ d.kind ∧ d.kind ≤ 6) (a6 : d.kind = 1 → -2147483648 ≤ d.num ∧ d.num ≤ 2147483647) (b6 : 0 ≤ D.ce ∧ D.ce ≤ 256) (hi : i ≤ 1000) (a5 : LnP P 1000) :
  Calls Tryz.prog 37 #[Pt F, I i, .agg (dcCs d bv).toArray] w (DPs B F g h D w (dcl P D.L D.ce i d)) := by
 obtain ⟨i4, z4, a8, b8, b5⟩ := zero104i
 have c8 : Tryz.prog.follows .mixedOrders = true := by kernel_rfl
 obtain ⟨v0, v1, v2, v3, v4, v5, v6, Z, v8, rfl⟩ := len9 hG.len.1
 have X := O a5
 have G := O (And.intro H (And.intro hG a3))
 have c9 := O (And.intro j a6)
 have d0 := O b6
 have U := O hi
 have d6 := O (dcCs_one d b9)
 obtain ⟨r, hr⟩ := eX (lkN D.L d.name)
 have K := O hr
 clear a5 H hG a3 j a6 b6 hi b9 hr
 go_in
 obtain ⟨C, a0⟩ : ∃ b, w.heap.size = b := ⟨_, rfl⟩
 refine wk fun N E => ?_
 go_wp2_with (first
  | (with_reducible refine at1 5 (.box 46 _) ?_; refine wpList_box_blk rfl (.tmp 2) rfl (dcCs d bv) rfl C a0 ?_; intro M k1 b1 d1; have K1 := O k1; have B1 := O b1; clear k1 b1)
 )
 refine E.out _ _ ?_
 clear E N
 have a9 : Hid (Dqp B F g h w C d bv P [v0, v1, v2, v3, v4, v5, v6, Z, v8] D M) := O ⟨(KpB.refl B F g w).below (B1.out.mono G.out.2.2.2.2.2), G.out.1.up B1.out, G.out.2.1.below B1.out, K1.out, G.out.2.2.1, G.out.2.2.2.1, G.out.2.2.2.2.1, by rw [← a0]; exact G.out.2.2.2.2.2, K1.out.lt⟩
 have d4 : Hid (∀ k x, ([v0, v1, v2, v3, v4, v5, v6, Z, v8].getD k nilV).ownBlock = some x → B ≤ x ∧ x < C) := O fun k x hx => by
  have := G.out.2.1.lt hx
  rw [a0] at this
  exact this
 clear K1 B1 d1 G a0
 refine wk fun N E => ?_
 obtain ⟨a1, hV⟩ := eX (M.drew)
 have A : Hid (Dqp B F g h w C d bv P [v0, v1, v2, v3, v4, v5, v6, Z, v8] D a1) := O (by rw [← hV]; exact a9.out.below (Below.refl _ _).drew)
 clear a9
 go_wp2_with fail
 refine wp_region_x [] (fun W => Dqp B F g h w C d bv P [v0, v1, v2, v3, v4, v5, v6, Z, v8] D W) c8 ?_
 rw [hV]
 clear hV
 refine tK3 0 ?_
 refine tKf _ 3 (fun M V => V.f.c13) ?_
 refine nm ?_
 refine tK1 4 ?_
 refine tf (fun M => M.cell? ⟨C, 3, none⟩ = some (.string d.name)) 5 (some 16) A (fun M V => V.d.cell 3) ?_
 refine wpX_takeD 6 (some 17) (v := ?_) rfl rfl (by kernel_rfl) (fun _ _ _ h => h) A.out (Or.inl ⟨by rfl, ?_⟩) ?_
 rotate_left
 ·intro M V
  have d5 := look_nm V.f.m d.name
  rw [lkV_eq, K.out] at d5
  clear V
  go_simp
  first | with_reducible rfl | rw [if_neg (by omega)]
 refine tK1 7 ?_
 refine nm ?_
 refine tK2 8 ?_
 refine nm ?_
 refine oD 10 fun a2 hK => ?_
 obtain ⟨bN, a4⟩ : ∃ b, a1.heap.size = b := ⟨_, rfl⟩
 refine wp_alloc_blk a8 b8 b5 rfl bN a4 ?_
 intro V2 j hb z2
 have b7 := O (A.out.below hb)
 have KB := O (And.intro j (And.intro hb a4))
 refine hK _ _ (fun _ => b7.out) ?_
 clear hK a2 j hb
 refine nm ?_
 refine oD 11 fun a2 hK => ?_
 refine wp_store_ch info104 (.tmp 6) (.tmp 18) rfl bN [I (lkK r), I (lkS r)] _ rfl rfl KB.out.1 rfl ⟨rfl, by simp [Value.oneCell']⟩ ?_
 intro V3 k3 c3
 have J := O (A.out.below (c3.below (by rw [KB.out.2.2]; omega) KB.out.2.1))
 refine hK _ _ (fun _ => J.out) ?_
 clear hK a2 k3 c3 b7 KB A a4 z2
 refine tK1 12 ?_
 refine nm ?_
 refine dn ?_
 rcases r with _ | x
 rotate_left
 ·have q1 : V3.cell? ⟨C, 1, none⟩ = some (.int .i64 d.line) := J.out.d.cell 1
  have q2 : V3.cell? ⟨C, 2, none⟩ = some (.int .i64 d.col) := J.out.d.cell 2
  go_wp2_with fail
  rw [dcl_some K.out]
  exact ⟨rfl, J.out.k, rfl⟩
 go_wp2_with fail
 refine E.out _ _ ?_
 clear E N
 refine wk fun N E => ?_
 go_wp2_with fail
 refine E.out _ _ ?_
 clear E N
 have q0 : V3.cell? ⟨C, 0, none⟩ = some (.int .i64 d.kind) := J.out.d.cell 0
 obtain ⟨bX, a7⟩ := eX (V3.heap.size)
 refine wk fun N E => ?_
 go_wp2_with (first
  | (with_reducible refine at1 9 (.alloc 104) ?_; refine wpList_alloc_blk a8 b8 b5 rfl rfl bX a7 ?_; intro V4 k4 b4 s4; have K4 := O k4; have B4 := O b4; clear k4 b4)
  | (with_reducible refine s0 104 ?_; refine wpList_store_ch info104 rfl (.tmp 9) (.tmp 30) rfl bX [I d.kind, I 0] _ rfl rfl K4.out rfl ⟨rfl, by simp [Value.oneCell']⟩ ?_; intro V5 k5 c5; have K5 := O (And.intro k5 c5); clear k5 c5)
 )
 refine E.out _ _ ?_
 clear E N
 have Q := O (J.out.below (K5.out.2.below (by rw [a7]; omega) B4.out))
 have a3 := J.out.lt
 have S : Hid (EEL V5 B C bX [v0, v1, v2, v3, v4, v5, v6, Z, v8]) := O fun k x hx => by
  have h1 := d4.out k x hx
  have h2 := Q.out.lt
  exact ⟨h1.1, by omega, by omega, by omega⟩
 have Y : B ≤ bX ∧ bX ≠ C := by omega
 have d2 := c9.out
 have d3 : d.kind = 1 ∨ d.kind = 2 ∨ d.kind = 3 ∨ d.kind = 4 ∨ d.kind = 5 ∨ d.kind = 6 := by omega
 have R := O K5.out.1
 rcases d3 with j | j | j | j | j | j
 ·exact pdec_1 Q R S Y K.out U.out X j (d2.2 j)
 ·exact pdec_2 Q R S Y K.out U.out X j d0.out
 ·exact pdec_3 Q R S Y K.out U.out X j
 ·exact pdec_4 Q R S Y K.out U.out X j
 ·exact pdec_5 Q R S Y K.out U.out X j
 ·exact pdec_6 Q R S Y K.out U.out X j
end Go.Proofs.YtgppcdfgdaggjaaGreatDoor
set_option maxRecDepth 100000
set_option maxHeartbeats 8000000
namespace Go.Proofs.YtgppcdfgdaggjaaGreatDoor
open Go.RowKit Go.Maps
def cnt6 : List De → Nat
 | [] => 0
 | d :: r => (if d.kind = 6 then 1 else 0) + cnt6 r
theorem bods_cons (L : List Nm) (n : Nat) (d : De) (r : List De) : bods L n (d :: r) = if d.kind = 6 then (match fSts L 0 n 0 d.body with
  | .error e => .error e
  | .ok q => mapE (fun p => ((q.1, q.2.2) :: p.1, p.2)) (bods L q.2.1 r)) else bods L n r := by
 rw [bods]
 split
 ·cases fSts L 0 n 0 d.body with
  | error e => rfl
  | ok q =>
   obtain ⟨b, n2, mo⟩ := q
   simp only
   cases bods L n2 r <;> rfl
 ·rfl
theorem putTh_len : ∀ (l : List Th) (q : List (List St × Nat)), (putTh l q).length = l.length
 | [], [] => rfl
 | [], _ :: _ => rfl
 | _ :: _, [] => rfl
 | t :: r, (b, mo) :: q => by
  show (putTh r q).length + 1 = r.length + 1
  rw [putTh_len r q]
theorem putTh_nil (l : List Th) : putTh l [] = l := by cases l <;> rfl
theorem putTh_snoc : ∀ (l : List Th) (q : List (List St × Nat)) (b : List St) (mo : Nat), q.length < l.length → putTh l (q ++ [(b, mo)]) = (putTh l q).set q.length ⟨((putTh l q).getD q.length default).name, mo, b⟩
 | [], q, b, mo, h => by simp at h
 | t :: r, [], b, mo, _ => by
  show ⟨t.name, mo, b⟩ :: putTh r [] = _
  rw [putTh_nil, putTh_nil]
  rfl
 | t :: r, (b2, m2) :: q, b, mo, h => by
  show ⟨t.name, m2, b2⟩ :: putTh r (q ++ [(b, mo)]) = _
  rw [putTh_snoc r q b mo (by simpa using h)]
  rfl
def ThAt (B gt : Nat) (W : World) (C : List Value) (ts : List Th) : Prop := ∀ j x, ts[j]? = some x → ∃ cs, Th.L (fun c => (B ≤ c ∧ c ≠ gt) ∧ c < W.heap.size) W cs x ∧ ∀ t, t < 3 → C[j * 3 + t]? = cs[t]?
theorem ThAt.keep {B g : Nat} {w W : World} {C : List Value} {E : List Th} (h : ThAt B g w C E) (J : ∀ c, B ≤ c → c ≠ g → c < w.heap.size → W.heap[c]? = w.heap[c]?) (M : w.heap.size ≤ W.heap.size) : ThAt B g W C E := fun j x H => by
 obtain ⟨cs, K, G⟩ := h j x H
 exact ⟨cs, elTh.weak (fun c D => ⟨D.1, Nat.lt_of_lt_of_le D.2 M⟩) (elTh.keep (fun b o u A F => by
  rw [← F]
  simp [World.cellF, J b A.1.1 A.1.2 A.2]) K), G⟩
theorem ThAt.set {B g sl : Nat} {W : World} {C : List Value} {w : List Th} (h : ThAt B g W C w) (N : w.length * 3 ≤ C.length) (E : sl < w.length) {a : Option Addr} {c : Nat} {b : List St} {mo : Nat} (H : Roomy b.length c ∧ StsL (fun c => (B ≤ c ∧ c ≠ g) ∧ c < W.heap.size) W a 0 b) :
  ThAt B g W ((C.set (sl * 3 + 2) (.slice a b.length c)).set (sl * 3 + 1) (I mo)) (w.set sl ⟨(w.getD sl default).name, mo, b⟩) := fun j x A => by
 have M : j < w.length := by
  have := (List.getElem?_eq_some_iff.1 A).1
  simpa using this
 by_cases e : sl = j
 ·subst e
  rw [List.getElem?_set_self E] at A
  cases A
  obtain ⟨cs, G, F⟩ := h sl w[sl] (List.getElem?_eq_getElem E)
  obtain ⟨Q, c0, rfl, -⟩ := G
  have J : w.getD sl default = w[sl] := by rw [List.getD_eq_getElem?_getD, List.getElem?_eq_getElem E]; rfl
  refine ⟨[.string (w.getD sl default).name, I mo, .slice a b.length c], ⟨a, c, rfl, H⟩, fun t D => ?_⟩
  have K := F t D
  rcases t with _ | _ | _ | t
  ·rw [List.getElem?_set_ne (by omega), List.getElem?_set_ne (by omega), K, J]
   rfl
  ·rw [List.getElem?_set_self (by simp; omega)]
   rfl
  ·rw [List.getElem?_set_ne (by omega), List.getElem?_set_self (by omega)]
   rfl
  ·omega
 ·rw [List.getElem?_set_ne e] at A
  obtain ⟨cs, G, F⟩ := h j x A
  exact ⟨cs, G, fun t D => by rw [List.getElem?_set_ne (by omega), List.getElem?_set_ne (by omega)]; exact F t D⟩
structure Bo (w0 w : World) (B F g h gt : Nat) (P : Pg) (vs : List Value) (D : PF) (C : List Value) (ts : List Th) (W : World) : Prop where
 k : KpB B F g w W
 f : Fi W F g h (pcC P vs) D
 t : Blk W gt 71 C
 a : ThAt B gt W C ts
 ln : ts.length * 3 ≤ C.length
 o : ∀ k, k < 9 → k ≠ 3 → Grow (elV (tyK k).1 (tyK k).2) B W (vs.getD k nilV) ((lsP P).getD k []) ∧ (vs.getD k nilV).ownBlock ≠ some gt
 b : Below w0.heap.size w0 W
 lt : (F < B ∧ g < B ∧ h < B ∧ B ≤ gt) ∧ w0.heap.size ≤ F ∧ w0.heap.size ≤ g
section
variable {w0 w W W' : World} {B F g h gt : Nat} {P : Pg} {vs : List Value} {D D' : PF} {C C' : List Value} {ts ts' : List Th}
theorem Bo.call (H : Bo w0 w B F g h gt P vs D C ts W) (j : Kp W W' F g) (N : Fi W' F g h (pcC P vs) D') : Bo w0 w B F g h gt P vs D' C ts W' := by
 have M := H.lt
 have R := H.t.lt
 refine ⟨⟨j.os.trans H.k.os, j.tape.trans H.k.tape, j.output.trans H.k.output, Nat.le_trans H.k.size j.size, fun c A E G => (j.block c (by omega) E G).trans (H.k.block c A E G)⟩, N, H.t.kp j (by omega) (by omega), H.a.keep (fun c Q _ A => j.block c A (by omega) (by omega)) j.size, H.ln, fun k J K => ⟨(H.o k J K).1.kp j (by omega) (by omega), (H.o k J K).2⟩, j.to_below H.b H.b.size M.2.1 M.2.2, H.lt⟩
theorem Bo.below (H : Bo w0 w B F g h gt P vs D C ts W) (j : bL W W') : Bo w0 w B F g h gt P vs D C ts W' := H.call (Kp.below j) (H.f.up j)
theorem Bo.setF (H : Bo w0 w B F g h gt P vs D C ts W) {j : Nat} {v : Value} (J : Blk W' F 101 ((pcC P vs ++ pfT g h D).set (13 + j) v)) (A : Ch F W W') (E : D'.L = D.L) (G : (pfT g h D).set j v = pfT g h D') : Bo w0 w B F g h gt P vs D' C ts W' := H.call A.kpF (H.f.setC J A E G)
theorem Ch.chM {b : Nat} {w w' : World} (h : Ch b w w') : ChM b w w' := ⟨h.kp.os, h.kp.tape, h.kp.output, h.size, fun _ j => h.hpc j⟩
theorem ChM.tr {b : Nat} {w1 w2 V : World} (A : ChM b w1 w2) (j : ChM b w2 V) : ChM b w1 V := ⟨j.os.trans A.os, j.tape.trans A.tape, j.output.trans A.output, j.size.trans A.size, fun k E => (j.block k E).trans (A.block k E)⟩
theorem Bo.setT (H : Bo w0 w B F g h gt P vs D C ts W) (K : Blk W' gt 71 C') (j : ChM gt W W') (J : ThAt B gt W C' ts') (G : ts'.length * 3 ≤ C'.length) : Bo w0 w B F g h gt P vs D C' ts' W' := by
 have M := H.lt
 exact ⟨H.k.below (j.below M.1.2.2.2 (Below.refl _ _)), H.f.of (j.block _ (by omega)) (j.block _ (by omega)) (j.block _ (by omega)), K, J.keep (fun c _ N _ => j.block c N) (Nat.le_of_eq j.size.symm), G, fun k A E => ⟨Grow.flat (elV_flat _ _) (H.o k A E).1 fun c Q => j.block c fun e => (H.o k A E).2 (e ▸ Q), (H.o k A E).2⟩, j.below (by omega) H.b, H.lt⟩
end
theorem info46d : (Tryz.prog.info? 46).map (·.size) = some 6 := by kernel_rfl
theorem under46d : ∃ d, Tryz.prog.underlying 46 = some d ∧ d.isRow = true := by
 have h : (Tryz.prog.underlying 46).map (·.isRow) = some true := by kernel_rfl
 obtain ⟨d, j, g⟩ := Option.map_eq_some_iff.1 h
 exact ⟨d, j, g⟩
theorem zero46d : ∃ i z, Tryz.prog.info? 46 = some i ∧ i.zero = some z ∧ z.cells = ([I 0, I 0, I 0, .string ⟨#[]⟩, I 0, .slice none 0 0] : List Value).toArray := infoZ (by kernel_rfl)
theorem info44 : (Tryz.prog.info? 44).map (·.size) = some 1 := by kernel_rfl
def BdP (w0 w : World) (B F g h gt : Nat) (P : Pg) (vs : List Value) (D : PF) (R : Except Flw (List (List St × Nat) × Nat)) (e : Ending) (w' : World) : Prop := KpB B F g w w' ∧ match R with
 | .error f => e = .panicked [flawN f]
 | .ok (bs, n) => e = .returned (.tuple #[]) ∧ ∃ mo C, Bo w0 w B F g h gt P vs { D with n := n, mo := mo } C (putTh P.threads bs) w'
theorem pbod_any {w0 w : World} {B F g h n0 n5 n6 : Nat} {P : Pg} {vs : List Value} {D : PF} {l2 : List Value} (l : List De) (a : Option Addr) (cap : Nat) (d0 : Roomy l.length cap) (f0 : DesL (fun _ => True) w0 a l) (H : Bo w0 w B F g h n0 P vs D l2 P.threads w) (e7 : vs.getD 3 nilV = .slice (some ⟨n0, 0, none⟩) n5 n6) (f6 : n5 = P.threads.length) (hI : D.loc = 0 ∧ D.n ≤ 512) (a7 : ∀ d ∈ l, St.sms d.body) (e5 : P.threads.length = cnt6 l ∧ cnt6 l ≤ 1000) :
  Calls Tryz.prog 38 #[Pt F, .slice a l.length cap] w (BdP w0 w B F g h n0 P vs D (bods D.L D.n l)) := by
 obtain ⟨i6, z6, f2, f1, f4⟩ := zero46d
 obtain ⟨g8, f5, f7⟩ := under46d
 obtain ⟨S, hN⟩ : ∃ S, l.length = S := ⟨_, rfl⟩
 rw [hN] at d0 ⊢
 have HN := O hN
 have f9 := O fun _ : True => d0
 have h7 := O f0
 have HH := O H
 have e1 := O (And.intro e7 f6)
 have HI := O hI
 have i1 := O a7
 have h0 := O e5
 obtain ⟨R, hR⟩ : ∃ R, bods D.L D.n l = R := ⟨_, rfl⟩
 rw [hR]
 have HR := O hR
 clear hN d0 f0 H e7 f6 hI a7 e5 hR
 go_enter Tryz.func38, Tryz.ntmps38
 refine wk fun KK f3 => ?_
 go_wp2_with fail
 refine f3.out _ _ ?_
 clear f3 KK
 go_wp2_with fail
 go_loopg [4, 10] S (fun x sv iv wr => ∃ (i sl : Nat) (A : PF) (C : List Value) (pre : List (List St × Nat)), i ≤ S ∧ x = S - i ∧ iv = I i ∧ sv = I sl ∧ Hid (pre.length = sl ∧ sl + cnt6 (l.drop i) = P.threads.length) ∧ Hid (Bo w0 w B F g h n0 P vs A C (putTh P.threads pre) wr) ∧ Hid (A.L = D.L ∧ A.loc = D.loc ∧ A.ce = D.ce ∧ A.n ≤ 512) ∧ Hid (R = mapE (fun q => (pre ++ q.1, q.2)) (bods D.L A.n (l.drop i))))
 case atStart => exact ⟨0, 0, D, l2, [], Nat.zero_le _, rfl, rfl, rfl, O ⟨rfl, by rw [List.drop_zero, Nat.zero_add]; exact h0.out.1.symm⟩, O (by rw [putTh_nil]; exact HH.out), O ⟨rfl, rfl, rfl, HI.out.2⟩, O (by rw [← HR.out]; cases h : bods D.L D.n l <;> simp [mapE, h])⟩
 case round =>
  clear HH HR
  obtain ⟨i, sl, A, C, pre, hi, rfl, rfl, rfl, f8, V, G, d5⟩ := hrel
  by_cases b5 : i < S
  ·have j1 : (i : Int) < (S : Int) := by omega
   have i5 : (0 : Int) ≤ (i : Int) := by omega
   have e4 : Hid (wrap64 ((i : Int) + 1) = ((i + 1 : Nat) : Int)) := O (by
    have K := (f9.out trivial).1
    have h2 := (f9.out trivial).2
    have := IntWalk.wrap64_in ((i : Int) + 1) (by omega)
    rw [this]
    omega)
   obtain ⟨b2, d6, dc, rfl, -, e8, h8⟩ := h7.out i (by rw [HN.out]; exact b5)
   have g1 : l.getD i default ∈ l := by
    rw [List.getD_eq_getElem?_getD, List.getElem?_eq_getElem (by rw [HN.out]; exact b5)]
    exact List.getElem_mem _
   have d2 : l.drop i = l.getD i default :: l.drop (i + 1) := by
    rw [List.drop_eq_getElem_cons (by rw [HN.out]; exact b5), List.getD_eq_getElem?_getD, List.getElem?_eq_getElem (by rw [HN.out]; exact b5)]
    rfl
   have J := d5.out
   have a1 := f8.out
   rw [d2, bods_cons] at J
   rw [d2] at a1
   have a7 := i1.out _ g1
   generalize l.getD i default = d at *
   obtain ⟨Z, a0, rfl, g5, g9⟩ := h8
   have d9 := O J
   have a2 : Hid (pre.length = sl ∧ sl + ((if d.kind = 6 then 1 else 0) + cnt6 (l.drop (i + 1))) = P.threads.length) := O a1
   have h9 := O a7
   have g2 := O (And.intro g5 g9)
   have e2 : Hid (wr.rangeAt b2 (d6 + i * 6) (dcCs d (.slice Z d.body.length a0))) := O fun t v hv => below_cl V.out.b _ _ _ (World.cellF_cell (by simpa using e8 t v hv))
   obtain ⟨U, b7⟩ : ∃ b, wr.heap.size = b := ⟨_, rfl⟩
   have b8 : Hid (n0 < U ∧ wr.heap.size = U) := O ⟨by rw [← b7]; exact V.out.t.lt, b7⟩
   obtain ⟨BN, e0⟩ : ∃ n, d.body.length = n := ⟨_, rfl⟩
   have i0 := O e0
   rw [e0] at e2
   clear J a1 e8 g5 g9 d2 g1 d5 f8 a7 e0
   by_cases a9 : d.kind = 6
   ·go_wp2_with (first
     | ((with_reducible refine at1 13 (.load 46 _) ?_); refine wpList_load_mid rfl 46 (.tmp 12) rfl b2 (d6 + i * 6) rfl (dcCs d (.slice Z BN a0)) g8 e2.out f5 f7 info46d ?_)
     | ((with_reducible refine at1 6 (.alloc 46) ?_); refine wpList_alloc_blk f2 f1 f4 rfl rfl U b7 ?_; intro W4 k4 b4 s4; have K4 := O k4; have B4 := O b4; clear k4 b4)
     | ((with_reducible refine at0 (.store 46 (.tmp 6) _) ?_); refine wpList_store_ch info46d rfl (.tmp 6) (.tmp 13) rfl U (dcCs d (.slice Z BN a0)) _ rfl rfl K4.out rfl (dcCs_one d rfl) ?_; intro W5 k5 c5; have a4 := O (V.out.below (c5.below (by rw [b8.out.2]; exact Nat.le_refl _) B4.out)); have a5 := O k5; have q0 : W5.cell? ⟨U, 0, none⟩ = some (.int .i64 d.kind) := a5.out.cell 0; clear k5 c5 K4 B4 s4 V)
     | ((with_reducible refine at0 (.store 3 (.tmp 19) _) ?_); refine wpList_store_one info3 rfl (.tmp 19) (.const (I 0)) rfl F 18 101 (I 0) _ rfl rfl rfl rfl a4.out.f.f (by simp [pcC, pfT]) ?_; intro W6 k6 c6; have Y := O (a4.out.setF (j := 5) (D' := { A with mo := 0 }) k6 c6 rfl rfl); have d4 := O (c6.blk (by have := b8.out; have := a4.out.lt; omega) a5.out); have q5 : W6.cell? ⟨U, 5, none⟩ = some (.slice Z BN a0) := d4.out.cell 5; clear k6 c6 a4 a5 q0)
     | fail)
    have d8 := pblk_all (w0 := w0) (F := F) (g := g) (h := h) (fc := pcC P vs) Y.out.lt.2 d.body h9.out { A with mo := 0 } Z a0 W6 g2.out.1 g2.out.2 Y.out.b Y.out.f ⟨by show A.loc ≤ 32; rw [G.out.2.1, HI.out.1]; decide, G.out.2.2.2⟩
    rw [i0.out] at d8
    refine d8.mono ?_
    clear d8 q5
    rintro e W7 ⟨d3, hm⟩
    obtain ⟨r, hr⟩ : ∃ r, fSts D.L 0 A.n 0 d.body = r := ⟨_, rfl⟩
    have J := d9.out
    rw [if_pos a9, hr] at J
    simp only at hm
    rw [G.out.1, G.out.2.1, HI.out.1, hr] at hm
    rcases r with er | ⟨b', n2, Q⟩
    ·obtain ⟨rfl, n3, i8, hf⟩ := hm
     have hq : R = .error er := J
     rw [hq]
     exact ⟨rfl, (Y.out.call d3 hf).k, rfl⟩
    obtain ⟨hf, a3, b9, rfl, g6, g3⟩ := hm
    have h5 := O (fSts_n d.body D.L 0 A.n 0 b' n2 Q hr G.out.2.2.2)
    have h6 := O J
    have g4 := O (Y.out.call d3 hf)
    have d7 : Hid (Roomy b'.length b9 ∧ StsL (fun c => (B ≤ c ∧ c ≠ n0) ∧ c < W7.heap.size) W7 a3 0 b') := O ⟨g6, (StsL.bound g3).weak fun c hc => by have i7 : W6.heap.size ≤ c := hc.1; have K := d4.out.lt; have h2 := b8.out; have h3 := Y.out.lt; exact ⟨by omega, hc.2⟩⟩
    clear J hr d3 hf g6 g3 d9
    have e6 : sl < P.threads.length := by have := a2.out.2; rw [if_pos a9] at this; omega
    have i4 : (0 : Int) ≤ (sl : Int) := by omega
    have i9 : (sl : Int) < (n5 : Int) := by rw [e1.out.2]; omega
    have g7 : (sl : Int) + 1 ≤ 100000 := by have := h0.out; omega
    have a8 := O (And.intro e6 g7)
    clear e6 g7
    obtain ⟨a6, hV⟩ : ∃ a6, W7.drew = a6 := ⟨_, rfl⟩
    have X : Hid (Bo w0 w B F g h n0 P vs { A with n := n2, mo := Q } C (putTh P.threads pre) a6) := O (by rw [← hV, G.out.1, G.out.2.1, HI.out.1]; exact g4.out.below (Below.refl _ _).drew)
    have e9 : Hid (Roomy b'.length b9 ∧ StsL (fun c => (B ≤ c ∧ c ≠ n0) ∧ c < a6.heap.size) a6 a3 0 b') := O (by rw [← hV]; exact ⟨d7.out.1, d7.out.2.keep fun b o u _ hu => below_cell (Below.refl _ W7).drew b o u hu⟩)
    obtain ⟨bo, b6⟩ : ∃ v, Value.slice a3 b'.length b9 = v := ⟨_, rfl⟩
    have d1 : Hid (Value.slice a3 b'.length b9 = bo ∧ bo.cells = #[bo] ∧ bo.oneCell' = true) := O ⟨b6, by rw [← b6]; exact ⟨rfl, rfl⟩⟩
    rw [b6]
    have E := O X.out.f.f
    clear g4 d7 Y d4 b6
    have h4 : Tryz.prog.follows .mixedOrders = true := by kernel_rfl
    go_wp2_with fail
    refine wp_region_x [11, 19, 20, 21, 22] (fun W => Blk W F 101 (pcC P vs ++ pfT g h { A with n := n2, mo := Q })) h4 ?_
    rw [hV]
    clear hV
    refine wpX_takeP 11 (some 35) (v := ?_) rfl rfl (by kernel_rfl) (fun _ _ _ h => h) (Or.inl ⟨by rfl, ?_⟩) ?_
    rotate_left
    ·intro N M
     clear M
     go_simp
     first | with_reducible rfl | rw [if_neg (by omega)]
    refine tk3 0 (some 24) E ?_
    refine tk3 1 (some 25) E ?_
    refine tk3 2 (some 26) E ?_
    refine nm ?_
    refine tk3 3 (some 27) E ?_
    refine tf3 (fun N => N.cell? ⟨F, 5, none⟩ = some (.slice (some ⟨n0, 0, none⟩) n5 n6)) 4 (some 28) E (fun N M => (M.cell 5).trans (congrArg some e1.out.1)) ?_
    refine tk3 5 (some 29) E ?_
    refine tk3 6 (some 30) E ?_
    refine nm ?_
    refine tk3 7 (some 31) E ?_
    refine tk3 8 (some 32) E ?_
    refine tk3 9 (some 33) E ?_
    refine tf3 (fun N => N.cell? ⟨F, 5, none⟩ = some (.slice (some ⟨n0, 0, none⟩) n5 n6)) 10 (some 34) E (fun N M => (M.cell 5).trans (congrArg some e1.out.1)) ?_
    refine nm ?_
    refine tk3 12 (some 36) E ?_
    refine tk3 13 (some 37) E ?_
    refine tk3 14 (some 38) E ?_
    refine tk3 15 (some 39) E ?_
    refine nm ?_
    refine tf3 (fun N => N.cell? ⟨F, 18, none⟩ = some (.int .i64 (Q : Int))) 16 (some 40) E (fun N M => M.cell 18) ?_
    refine tk3 17 (some 41) E ?_
    refine tk3 18 (some 42) E ?_
    refine nm ?_
    refine wpX_store1 19 (by kernel_rfl) rfl rfl rfl rfl info44 (.tmp 42) (.tmp 36) rfl n0 (sl * 3 + 2) 71 bo C (by first | rfl | simp [Act.eval]) rfl d1.out.2.1 d1.out.2.2 X.out.t (by have K := X.out.ln; rw [putTh_len] at K; have := a8.out.1; omega) ?_
    intro W8 k8 c8
    have K8 := O (And.intro k8 c8)
    clear k8 c8
    refine wpX_takeP 20 (some 43) (v := ?_) rfl rfl (by kernel_rfl) (fun _ _ _ h => h) (Or.inl ⟨by rfl, ?_⟩) ?_
    rotate_left
    ·intro N M
     clear M
     go_simp
     first | with_reducible rfl | rw [if_neg (by omega)]
    refine wpX_takeP 21 (some 44) (v := ?_) rfl rfl (by kernel_rfl) (fun _ _ _ h => h) (Or.inl ⟨by rfl, ?_⟩) ?_
    rotate_left
    ·intro N M
     clear M
     go_simp
     first | with_reducible rfl | rw [if_neg (by omega)]
    refine nm ?_
    refine wpX_store1 22 (by kernel_rfl) rfl rfl rfl rfl info3 (.tmp 44) (.tmp 40) rfl n0 (sl * 3 + 1) 71 (I Q) (C.set (sl * 3 + 2) bo) (by first | rfl | simp [Act.eval]) rfl rfl rfl K8.out.1 (by have K := X.out.ln; rw [putTh_len] at K; have := a8.out.1; simp; omega) ?_
    intro W9 k9 c9
    have K9 := O (And.intro k9 c9)
    clear k9 c9
    try simp only [Act.put]
    refine dn ?_
    have i2 : Hid (Bo w0 w B F g h n0 P vs { A with n := n2, mo := Q } ((C.set (sl * 3 + 2) bo).set (sl * 3 + 1) (I Q)) (putTh P.threads (pre ++ [(b', Q)])) W9) := O (by
     have e3 := X.out.ln
     have i3 : sl < (putTh P.threads pre).length := by rw [putTh_len]; exact a8.out.1
     have K := X.out.a.set e3 i3 (mo := Q) e9.out
     rw [d1.out.1] at K
     rw [putTh_snoc _ _ _ _ (by rw [a2.out.1]; exact a8.out.1), a2.out.1]
     refine X.out.setT K9.out.1 (K8.out.2.chM.tr K9.out.2.chM) K ?_
     simp only [List.length_set]
     exact e3)
    clear K8 K9 X e9 E
    go_wp2_with fail
    go_roundg (S - (i + 1))
    case measure => omega
    case rel =>
     refine ⟨i + 1, sl + 1, { A with n := n2, mo := Q }, _, pre ++ [(b', Q)], by omega, rfl, congrArg (Value.int .i64) e4.out, ?_, O ⟨by simp [a2.out.1], by have := a2.out.2; rw [if_pos a9] at this; omega⟩, i2, O ⟨G.out.1, G.out.2.1, G.out.2.2.1, h5.out⟩, O ?_⟩
     ·have := a8.out
      exact congrArg (Value.int .i64) (by first | omega | exact (IntWalk.wrap64_in _ (by omega)).trans (by omega))
     ·rw [h6.out, mapE_mapE]
      congr 1
      funext q
      simp
   ·go_wp2_with (first
     | ((with_reducible refine at1 13 (.load 46 _) ?_); refine wpList_load_mid rfl 46 (.tmp 12) rfl b2 (d6 + i * 6) rfl (dcCs d (.slice Z BN a0)) g8 e2.out f5 f7 info46d ?_)
     | ((with_reducible refine at1 6 (.alloc 46) ?_); refine wpList_alloc_blk f2 f1 f4 rfl rfl U b7 ?_; intro W4 k4 b4 s4; have K4 := O k4; have B4 := O b4; clear k4 b4)
     | ((with_reducible refine at0 (.store 46 (.tmp 6) _) ?_); refine wpList_store_ch info46d rfl (.tmp 6) (.tmp 13) rfl U (dcCs d (.slice Z BN a0)) _ rfl rfl K4.out rfl (dcCs_one d rfl) ?_; intro W5 k5 c5; have a4 := O (V.out.below (c5.below (by rw [b8.out.2]; exact Nat.le_refl _) B4.out)); have a5 := O k5; have q0 : W5.cell? ⟨U, 0, none⟩ = some (.int .i64 d.kind) := a5.out.cell 0; clear k5 c5 K4 B4 s4 V)
     | fail)
    go_roundg (S - (i + 1))
    case measure => omega
    case rel =>
     have J := d9.out
     rw [if_neg a9] at J
     have a1 := a2.out
     rw [if_neg a9, Nat.zero_add] at a1
     exact ⟨i + 1, sl, A, C, pre, by omega, rfl, congrArg (Value.int .i64) e4.out, rfl, O a1, a4, G, O J⟩
  ·obtain rfl : i = S := by omega
   have j0 : ¬ (i : Int) < (i : Int) := by omega
   have hQ := d5.out
   rw [← HN.out, List.drop_length, bods] at hQ
   have HQ := O (show R = .ok (pre, A.n) by rw [hQ]; simp [mapE])
   clear hQ
   go_wp2_with fail
   go_end0
   rw [HQ.out]
   refine ⟨V.out.k, rfl, A.mo, C, ?_⟩
   have hd : A = { D with n := A.n, mo := A.mo } := by
    obtain ⟨K, h2, h3, -⟩ := G.out
    cases A
    simp only at K h2 h3
    rw [K, h2, h3]
   rw [← hd]
   exact V.out
end Go.Proofs.YtgppcdfgdaggjaaGreatDoor
