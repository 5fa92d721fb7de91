/- Texts laid together. No condition but what each law says. -/
import Derived.Test.YtgppcdfgdaggjaaGreatDoorQ37
import Derived.Test.YtgppcdfgdaggjaaGreatDoorQ26
set_option maxRecDepth 100000
set_option maxHeartbeats 8000000
namespace Go.Proofs.YtgppcdfgdaggjaaGreatDoor
open Go.RowKit Go.Maps
theorem flI (t : TypeId) : Flat (elI t) := fun _ _ _ _ _ _ h => h
theorem flS : Flat elS := fun _ _ _ _ _ _ h => h
/-- A clone of a flat list. -/
theorem clone_grow {α : Type} {E : El α} {F : FuncId} (hF : CloC F E) (hf : Flat E) {w : World} {ok : Nat → Prop} {v : Value} {l : List α} (h : Ro E ok w v l) (hl : l.length ≤ 10000000) : Calls Tryz.prog F #[v] w fun e w' => bL w w' ∧ ∃ a cap, e = .returned (.slice a l.length cap) ∧ Grow E w.heap.size w' (.slice a l.length cap) l := by
 obtain ⟨cells, hc, h1, h2⟩ := hF w ok v l h hl
 refine h2.mono ?_
 rintro e w' ⟨hb, u, rfl, ho⟩
 have hG : Grow E w.heap.size w' u l := ⟨cells, hc, ho, fun i cs x hi hx => hf _ _ _ _ _ _ (h1 i cs x hi hx)⟩
 obtain ⟨a, cap, rfl, -⟩ := hG.form
 exact ⟨hb, a, cap, rfl, hG⟩
theorem Grow.base {α : Type} {E : El α} {B B' : Nat} {w : World} {v : Value} {l : List α} (h : Grow E B w v l) (hB : B' ≤ B) : Grow E B' w v l := by
 obtain ⟨cells, hc, ho, he⟩ := h.own
 refine ⟨cells, hc, ⟨ho.1, ho.2.imp id ?_⟩, fun i cs x h1 h2 => E.weak (fun c hc => ⟨⟨by have := hc.1.1; omega, hc.1.2⟩, hc.2⟩) (he i cs x h1 h2)⟩
 rintro ⟨g, cap, cur, h1, h2, h3⟩
 exact ⟨g, cap, cur, h1, by omega, h3⟩
/-- How it stands while a program is copied. -/
structure Cq (w : World) (ps C : List Value) (W : World) : Prop where
 b : bL w W
 p : Blk W w.heap.size 30 ps
 r : Blk W (w.heap.size + 1) 30 zPgC
 o : Blk W (w.heap.size + 2) 30 C
section
variable {w W W' : World} {ps C C' : List Value}
theorem Cq.lt (h : Cq w ps C W) : w.heap.size + 3 ≤ W.heap.size := h.o.lt
theorem Cq.belowB (h : Cq w ps C W) (g : Below (w.heap.size + 3) W W') : Cq w ps C W' := ⟨h.b.trans (g.mono (by omega)), h.p.of (g.block _ (by omega)), h.r.of (g.block _ (by omega)), h.o.of (g.block _ (by omega))⟩
theorem Cq.below (h : Cq w ps C W) (g : bL W W') : Cq w ps C W' := h.belowB (g.mono h.lt)
theorem Cq.setO (h : Cq w ps C W) (j : Blk W' (w.heap.size + 2) 30 C') (g : Ch (w.heap.size + 2) W W') : Cq w ps C' W' := ⟨g.below (by omega) h.b, g.blk (by omega) h.p, g.blk (by omega) h.r, j⟩
end
theorem Ch.roB {α : Type} {E : El α} {w w' : World} {b B : Nat} (h : Ch b w w') (hb : b < B) {v : Value} {l : List α} (hr : Ro E (B ≤ ·) w v l) : Ro E (B ≤ ·) w' v l := hr.keep fun c o u g A => by
 have C := g
 rw [h.cellF (by omega)]
 exact A
/-- The four lists of the copy, but for the names. -/
structure Cn (B : Nat) (P : Pg) (v0 v1 v4 v5 : Value) (W : World) : Prop where
 v : Ro (elI 2) (B ≤ ·) W v0 P.vars
 a : Ro (elI 3) (B ≤ ·) W v1 P.arrays
 c : Ro (elI 3) (B ≤ ·) W v4 P.chans
 t : Ro elTh (B ≤ ·) W v5 P.threads
theorem Cn.below {B : Nat} {P : Pg} {v0 v1 v4 v5 : Value} {W W' : World} (h : Cn B P v0 v1 v4 v5 W) (g : bL W W') : Cn B P v0 v1 v4 v5 W' :=
 ⟨h.v.keep fun b o u _ hu => below_cell g b o u hu, h.a.keep fun b o u _ hu => below_cell g b o u hu, h.c.keep fun b o u _ hu => below_cell g b o u hu, h.t.keep fun b o u _ hu => below_cell g b o u hu⟩
theorem Cn.ch {B b : Nat} {P : Pg} {v0 v1 v4 v5 : Value} {W W' : World} (h : Cn B P v0 v1 v4 v5 W) (g : Ch b W W') (hb : b < B) : Cn B P v0 v1 v4 v5 W' := ⟨g.roB hb h.v, g.roB hb h.a, g.roB hb h.c, g.roB hb h.t⟩
/-- What Copy leaves. -/
def CpyR (w : World) (P : Pg) (e : Ending) (w' : World) : Prop := bL w w' ∧ ∃ qs, e = .returned (.agg qs.toArray) ∧ PgRL (w.heap.size ≤ ·) w' P qs
theorem cp_tail {w W : World} {P : Pg} {v0 v1 v4 v5 u0 u1 u4 u5 n0 n1 n2 n3 n4 : Value} (hP : Hid (PgL (fun _ => True) w P u0 u1 u4 u5 n0 n1 n2 n3 n4)) (hN : Hid (P.nv.length ≤ 10000000 ∧ P.na.length ≤ 10000000 ∧ P.nm.length ≤ 10000000 ∧ P.nc.length ≤ 10000000 ∧ P.nh.length ≤ 10000000))
  (E : Hid (Cq w (pgC P u0 u1 u4 u5 n0 n1 n2 n3 n4 []) (pgC P v0 v1 v4 v5 n0 n1 n2 n3 n4 []) W)) (HC : Hid (Cn (w.heap.size + 3) P v0 v1 v4 v5 W)) {x0 : Value} {l2 : List Value} (hU : l2.length = 57 := by rfl) :
  Code.wp Tryz.prog (dropS 5 (Tryz.f20.body.getD .skip)) (bodyPost Tryz.prog Tryz.f20 (CpyR w P)) ⟨(x0 :: Pt w.heap.size :: Pt (w.heap.size + 1) :: Pt (w.heap.size + 2) :: l2).toArray, []⟩ W := by
 revert l2
 apply aN
 iterate 57 intro _
 change Code.wp _ _ _ _ _
 obtain ⟨i8, z8, f6, g2, g5⟩ := zero28
 obtain ⟨d8, e8, r8⟩ := under28
 obtain ⟨d3, e3, r3⟩ := under30
 have h4 : Tryz.prog.follows .mixedOrders = true := by kernel_rfl
 have hn0 : n0.oneCell' = true ∧ n1.oneCell' = true ∧ n2.oneCell' = true ∧ n3.oneCell' = true ∧ n4.oneCell' = true := by
  obtain ⟨a0, c0, h0, -⟩ := hP.out.nv
  obtain ⟨a1, c1, h1, -⟩ := hP.out.na
  obtain ⟨a2, c2, h2, -⟩ := hP.out.nm
  obtain ⟨a3, c3, h3, -⟩ := hP.out.nc
  obtain ⟨a4, c4, h4, -⟩ := hP.out.nh
  subst h0 h1 h2 h3 h4
  exact ⟨rfl, rfl, rfl, rfl, rfl⟩
 have hns : Hid ((([n0, n1, n2, n3, n4] : List Value).length = 5) ∧ ∀ v ∈ ([n0, n1, n2, n3, n4] : List Value), v.oneCell' = true) := O ⟨rfl, fun v hv => by
  simp only [List.mem_cons, List.not_mem_nil, or_false] at hv
  rcases hv with rfl | rfl | rfl | rfl | rfl
  ·exact hn0.1
  ·exact hn0.2.1
  ·exact hn0.2.2.1
  ·exact hn0.2.2.2.1
  ·exact hn0.2.2.2.2⟩
 clear hn0
 conv in (dropS _ _) => whnf
 refine wk fun KK U => ?_
 have hr8 : Hid (W.rangeAt w.heap.size 8 [n0, n1, n2, n3, n4]) := O (by
  have h := E.out.p.range (pre := [u0, u1, .int .i64 (P.mutexes : Int), .int .i64 (P.conds : Int), u4, u5, .int .i64 (P.main : Int), .int .i64 (P.stmts : Int)]) (mid := [n0, n1, n2, n3, n4]) (post := []) rfl
  exact h)
 obtain ⟨b6, hb6⟩ := eX W.heap.size
 go_wp2_with (first
  | ((with_reducible refine l1 42 28 ?_); refine wpList_load_mid rfl 28 (.tmp 41) rfl w.heap.size 8 rfl [n0, n1, n2, n3, n4] d8 hr8.out e8 r8 info28 ?_)
  | ((with_reducible refine at1 6 (.alloc 28) ?_); refine wpList_alloc_blk f6 g2 g5 rfl rfl b6 hb6 ?_; intro W1 k1 b1 s1; have K1 := O k1; have B1 := O b1; clear k1 b1 s1)
  | ((with_reducible refine s0 28 ?_); refine wpList_store_ch info28 rfl (.tmp 6) (.tmp 42) rfl b6 [n0, n1, n2, n3, n4] _ rfl rfl K1.out rfl hns.out ?_; intro W2 k2 c2; have K2 := O k2; have B2 : Hid (bL W W2) := O (c2.below (by omega) B1.out); clear k2 c2 K1 B1)
 )
 refine U.out _ _ ?_
 clear U KK hr8 hb6
 have E2 := O (E.out.below B2.out)
 have HC2 := O (HC.out.below B2.out)
 clear E HC B2
 refine wk fun KK U => ?_
 obtain ⟨V, hV⟩ := eX W2.drew
 have hb : bL W2 V := by rw [← hV]; exact (Below.refl _ _).drew
 have KV := O (K2.out.below hb)
 have EV := O (E2.out.below hb)
 have HCV := O (HC2.out.below hb)
 clear E2 HC2 K2 hb
 go_wp2
 refine wp_region_x [17] (fun W => bL V W) h4 ?_
 rw [hV]
 clear hV
 have HS : Hid (bL V V) := O (Below.refl _ _)
 refine tK1 0 ?_
 refine tKf (fun W => W.cell? ⟨b6, 0, none⟩ = some n0) 1 (fun W h => by rw [(KV.out.below h).cell]; rfl) ?_
 refine tK1 3 ?_
 refine tKf (fun W => W.cell? ⟨b6, 1, none⟩ = some n1) 4 (fun W h => by rw [(KV.out.below h).cell]; rfl) ?_
 refine nm ?_
 refine tK1 6 ?_
 refine tKf (fun W => W.cell? ⟨b6, 2, none⟩ = some n2) 7 (fun W h => by rw [(KV.out.below h).cell]; rfl) ?_
 refine tK1 9 ?_
 refine tKf (fun W => W.cell? ⟨b6, 3, none⟩ = some n3) 10 (fun W h => by rw [(KV.out.below h).cell]; rfl) ?_
 refine nm ?_
 refine tK1 12 ?_
 refine tKf (fun W => W.cell? ⟨b6, 4, none⟩ = some n4) 13 (fun W h => by rw [(KV.out.below h).cell]; rfl) ?_
 refine nm ?_
 refine oD 2 fun K F => ?_
 go_simp
 refine (clone_grow clone51 flS (w := V) (hP.out.nv.keep fun b o u _ hu => below_cell (EV.out.b.trans ((Below.refl _ V).mono EV.out.b.size)) b o u hu) hN.out.1).mono ?_
 rintro e A0 ⟨hb, a0, c0, rfl, hg⟩
 have P0 : Hid (bL V A0) := O (hb)
 have G0_0 : Hid (Grow elS (w.heap.size + 3) A0 (.slice a0 P.nv.length c0) P.nv) := O (Grow.base hg (Nat.le_trans EV.out.lt (Nat.le_refl _)))
 apply F _ _ (fun _ => P0.out)
 clear F K hb hg
 refine oD 5 fun K F => ?_
 go_simp
 refine (clone_grow clone51 flS (w := A0) (hP.out.na.keep fun b o u _ hu => below_cell (EV.out.b.trans (P0.out.mono EV.out.b.size)) b o u hu) hN.out.2.1).mono ?_
 rintro e A1 ⟨hb, a1, c1, rfl, hg⟩
 have P1 : Hid (bL V A1) := O (P0.out.trans (hb.mono P0.out.size))
 have G1_1 : Hid (Grow elS (w.heap.size + 3) A1 (.slice a1 P.na.length c1) P.na) := O (Grow.base hg (Nat.le_trans EV.out.lt P0.out.size))
 have G0_1 := O (G0_0.out.below hb)
 apply F _ _ (fun _ => P1.out)
 clear F K hb hg
 refine oD 8 fun K F => ?_
 go_simp
 refine (clone_grow clone51 flS (w := A1) (hP.out.nm.keep fun b o u _ hu => below_cell (EV.out.b.trans (P1.out.mono EV.out.b.size)) b o u hu) hN.out.2.2.1).mono ?_
 rintro e A2 ⟨hb, a2, c2, rfl, hg⟩
 have P2 : Hid (bL V A2) := O (P1.out.trans (hb.mono P1.out.size))
 have G2_2 : Hid (Grow elS (w.heap.size + 3) A2 (.slice a2 P.nm.length c2) P.nm) := O (Grow.base hg (Nat.le_trans EV.out.lt P1.out.size))
 have G0_2 := O (G0_1.out.below hb)
 have G1_2 := O (G1_1.out.below hb)
 apply F _ _ (fun _ => P2.out)
 clear F K hb hg
 refine oD 11 fun K F => ?_
 go_simp
 refine (clone_grow clone51 flS (w := A2) (hP.out.nc.keep fun b o u _ hu => below_cell (EV.out.b.trans (P2.out.mono EV.out.b.size)) b o u hu) hN.out.2.2.2.1).mono ?_
 rintro e A3 ⟨hb, a3, c3, rfl, hg⟩
 have P3 : Hid (bL V A3) := O (P2.out.trans (hb.mono P2.out.size))
 have G3_3 : Hid (Grow elS (w.heap.size + 3) A3 (.slice a3 P.nc.length c3) P.nc) := O (Grow.base hg (Nat.le_trans EV.out.lt P2.out.size))
 have G0_3 := O (G0_2.out.below hb)
 have G1_3 := O (G1_2.out.below hb)
 have G2_3 := O (G2_2.out.below hb)
 apply F _ _ (fun _ => P3.out)
 clear F K hb hg
 refine oD 14 fun K F => ?_
 go_simp
 refine (clone_grow clone51 flS (w := A3) (hP.out.nh.keep fun b o u _ hu => below_cell (EV.out.b.trans (P3.out.mono EV.out.b.size)) b o u hu) hN.out.2.2.2.2).mono ?_
 rintro e A4 ⟨hb, a4, c4, rfl, hg⟩
 have P4 : Hid (bL V A4) := O (P3.out.trans (hb.mono P3.out.size))
 have G4_4 : Hid (Grow elS (w.heap.size + 3) A4 (.slice a4 P.nh.length c4) P.nh) := O (Grow.base hg (Nat.le_trans EV.out.lt P3.out.size))
 have G0_4 := O (G0_3.out.below hb)
 have G1_4 := O (G1_3.out.below hb)
 have G2_4 := O (G2_3.out.below hb)
 have G3_4 := O (G3_3.out.below hb)
 apply F _ _ (fun _ => P4.out)
 clear F K hb hg
 refine tK1 15 ?_
 refine nm ?_
 refine tK1 16 ?_
 refine nm ?_
 have E4 := O (EV.out.below P4.out)
 have HC4 := O (HCV.out.below P4.out)
 refine oD 17 fun K F => ?_
 refine wp_store_part info28 (.tmp 59) (.tmp 58) rfl (w.heap.size + 2) 8 [.slice a0 P.nv.length c0, .slice a1 P.na.length c1, .slice a2 P.nm.length c2, .slice a3 P.nc.length c3, .slice a4 P.nh.length c4] (pre := [v0, v1, .int .i64 (P.mutexes : Int), .int .i64 (P.conds : Int), v4, v5, .int .i64 (P.main : Int), .int .i64 (P.stmts : Int)]) (mid := [n0, n1, n2, n3, n4]) (post := []) rfl rfl E4.out.o rfl rfl ⟨rfl, fun v hv => by
  simp only [List.mem_cons, List.not_mem_nil, or_false] at hv
  rcases hv with rfl | rfl | rfl | rfl | rfl <;> rfl⟩ ?_
 intro W5 k5 c5
 have E5 : Hid (Cq w (pgC P u0 u1 u4 u5 n0 n1 n2 n3 n4 []) (pgC P v0 v1 v4 v5 (.slice a0 P.nv.length c0) (.slice a1 P.na.length c1) (.slice a2 P.nm.length c2) (.slice a3 P.nc.length c3) (.slice a4 P.nh.length c4) []) W5) := O (E4.out.setO k5 c5)
 have HC5 := O (HC4.out.ch c5 (by omega))
 have HG5 : Hid (Ro elS (w.heap.size + 3 ≤ ·) W5 (.slice a0 P.nv.length c0) P.nv ∧ Ro elS (w.heap.size + 3 ≤ ·) W5 (.slice a1 P.na.length c1) P.na ∧ Ro elS (w.heap.size + 3 ≤ ·) W5 (.slice a2 P.nm.length c2) P.nm ∧ Ro elS (w.heap.size + 3 ≤ ·) W5 (.slice a3 P.nc.length c3) P.nc ∧ Ro elS (w.heap.size + 3 ≤ ·) W5 (.slice a4 P.nh.length c4) P.nh) := O ⟨c5.roB (by omega) (Ro.of G0_4.out), c5.roB (by omega) (Ro.of G1_4.out), c5.roB (by omega) (Ro.of G2_4.out), c5.roB (by omega) (Ro.of G3_4.out), c5.roB (by omega) (Ro.of G4_4.out)⟩
 apply F _ _ nofun
 clear F K k5 c5 E4 HC4 G0_4 G1_4 G2_4 G3_4 G4_4 G0_3 G1_3 G2_3 G3_3 G0_2 G1_2 G2_2 G0_1 G1_1 G0_0 P0 P1 P2 P3 P4 EV HCV KV
 simp only [Act.put]
 refine dn ?_
 go_wp2_with fail
 refine U.out _ _ ?_
 clear U KK
 have hone : v0.oneCell' = true ∧ v1.oneCell' = true ∧ v4.oneCell' = true ∧ v5.oneCell' = true := by
  obtain ⟨a0, c0, h0, -⟩ := HC5.out.v
  obtain ⟨a1, c1, h1, -⟩ := HC5.out.a
  obtain ⟨a2, c2, h2, -⟩ := HC5.out.c
  obtain ⟨a3, c3, h3, -⟩ := HC5.out.t
  subst h0 h1 h2 h3
  exact ⟨rfl, rfl, rfl, rfl⟩
 obtain ⟨S, b9⟩ := eX (pgC P v0 v1 v4 v5 (.slice a0 P.nv.length c0) (.slice a1 P.na.length c1) (.slice a2 P.nm.length c2) (.slice a3 P.nc.length c3) (.slice a4 P.nh.length c4) [])
 have h6 := O b9
 have e1 : Hid (S.length = 13 ∧ ∀ v ∈ S, v.oneCell' = true) := O (by
  rw [← b9]
  refine ⟨rfl, fun v hv => ?_⟩
  simp only [pgC, List.mem_cons, List.not_mem_nil, or_false] at hv
  rcases hv with rfl | rfl | rfl | rfl | rfl | rfl | rfl | rfl | rfl | rfl | rfl | rfl | rfl
  ·exact hone.1
  ·exact hone.2.1
  ·exact rfl
  ·exact rfl
  ·exact hone.2.2.1
  ·exact hone.2.2.2
  ·exact rfl
  ·exact rfl
  ·exact rfl
  ·exact rfl
  ·exact rfl
  ·exact rfl
  ·exact rfl)
 rw [b9] at E5
 clear b9 hone
 have e8' := e1.out.1
 go_wp2_with (first
  | ((with_reducible refine l0 30 ?_); refine wpList_load_blk e3 r3 info30 rfl (.tmp 3) rfl (w.heap.size + 2) S rfl (O E5.out.o) e8' ?_)
  | ((with_reducible refine s0 30 ?_); refine wpList_store_ch info30 rfl (.tmp 2) (.tmp 60) rfl (w.heap.size + 1) S _ rfl rfl E5.out.r rfl e1.out ?_; intro W9 k9 c9; have X := O (And.intro k9 c9); clear k9 c9)
 )
 refine end_blk e3 r3 info30 X.out.1 e8' rfl rfl rfl ?_
 have hc : ∀ {α : Type} {E : El α} {v : Value} {l : List α}, Ro E (w.heap.size + 3 ≤ ·) W5 v l → Ro E (w.heap.size ≤ ·) W9 v l := fun h => (X.out.2.roB (by omega) h).weak fun c hc => by have hc' : w.heap.size + 3 ≤ c := hc; show w.heap.size ≤ c; omega
 exact ⟨X.out.2.below (by omega) E5.out.b, S, rfl, v0, v1, v4, v5, _, _, _, _, _, h6.out.symm, hc HC5.out.v, hc HC5.out.a, hc HC5.out.c, hc HC5.out.t, hc HG5.out.1, hc HG5.out.2.1, hc HG5.out.2.2.1, hc HG5.out.2.2.2.1, hc HG5.out.2.2.2.2⟩
end Go.Proofs.YtgppcdfgdaggjaaGreatDoor
set_option maxRecDepth 100000
set_option maxHeartbeats 8000000
namespace Go.Proofs.YtgppcdfgdaggjaaGreatDoor
open Go.RowKit Go.Maps
theorem info71 : (Tryz.prog.info? 71).map (·.size) = some 3 := by kernel_rfl
theorem under71 : ∃ d, Tryz.prog.underlying 71 = some d ∧ d.isRow = true := by
 have h : (Tryz.prog.underlying 71).map (·.isRow) = some true := by kernel_rfl
 obtain ⟨d, j, g⟩ := Option.map_eq_some_iff.1 h
 exact ⟨d, j, g⟩
theorem zero71 : ∃ i z, Tryz.prog.info? 71 = some i ∧ i.zero = some z ∧ z.cells = ([.string ⟨#[]⟩, .int .i64 0, .slice none 0 0] : List Value).toArray := infoZ (by kernel_rfl)
/-- The copy's threads: those up to i are done. -/
structure Tq (B i g : Nat) (T : List Th) (C : List Value) (W : World) : Prop where
 k : Blk W g 71 C
 ge : B ≤ g
 ln : T.length * 3 ≤ C.length
 d : ∀ j x, j < i → T[j]? = some x → ∃ cs, Th.L (fun c => (B ≤ c ∧ c ≠ g) ∧ c < W.heap.size) W cs x ∧ ∀ t, t < 3 → C[j * 3 + t]? = cs[t]?
 r : ∀ j x, i ≤ j → T[j]? = some x → C[j * 3]? = some (.string x.name) ∧ C[j * 3 + 1]? = some (.int .i64 (x.locals : Int))
section
variable {B i g : Nat} {T : List Th} {C : List Value} {W W' : World}
theorem Tq.keep (h : Tq B i g T C W) (hk : ∀ c, B ≤ c → c < W.heap.size → W'.heap[c]? = W.heap[c]?) (hs : W.heap.size ≤ W'.heap.size) : Tq B i g T C W' :=
 ⟨h.k.of (hk g h.ge h.k.lt), h.ge, h.ln, fun j x hj hx => by
  obtain ⟨cs, h1, h2⟩ := h.d j x hj hx
  exact ⟨cs, elTh.weak (fun c hc => ⟨hc.1, Nat.lt_of_lt_of_le hc.2 hs⟩) (elTh.keep (fun b o u hb hu => (World.cellF_of (hk b hb.1.1 hb.2) o).trans hu) h1), h2⟩, h.r⟩
theorem Tq.below (h : Tq B i g T C W) (hb : bL W W') : Tq B i g T C W' := h.keep (fun c _ hc => hb.block c hc) hb.size
theorem Tq.ch {b : Nat} (h : Tq B i g T C W) (hc : Ch b W W') (hb : b < B) : Tq B i g T C W' := h.keep (fun c h1 _ => hc.hpc (by omega)) (Nat.le_of_eq hc.size.symm)
theorem Tq.set {x : Th} {a : Option Addr} {cap : Nat} (h : Tq B i g T C W) (hx : T[i]? = some x) (hr : Roomy x.body.length cap) (ht : StsL (fun c => (B ≤ c ∧ c ≠ g) ∧ c < W.heap.size) W a 0 x.body) (hk : Blk W' g 71 (C.set (i * 3 + 2) (.slice a x.body.length cap))) (hc : Ch g W W') : Tq B (i + 1) g T (C.set (i * 3 + 2) (.slice a x.body.length cap)) W' := by
 have hcf : ∀ (b o : Nat) (u : Value), ((B ≤ b ∧ b ≠ g) ∧ b < W.heap.size) → W.cellF ⟨b, o, none⟩ = some u → W'.cellF ⟨b, o, none⟩ = some u := fun b o u hb hu => by
  rw [hc.cellF hb.1.2]
  exact hu
 have hsz := hc.size
 have hi : i < T.length := (List.getElem?_eq_some_iff.1 hx).1
 refine ⟨hk, h.ge, by rw [List.length_set]; exact h.ln, fun j y hj hy => ?_, fun j y hj hy => ?_⟩
 ·by_cases e : j = i
  ·subst e
   rw [hx] at hy
   cases hy
   obtain ⟨r1, r2⟩ := h.r j x (Nat.le_refl _) hx
   refine ⟨[.string x.name, .int .i64 (x.locals : Int), .slice a x.body.length cap], ⟨a, cap, rfl, hr, StsL.weak (fun c hc => ⟨hc.1, by rw [hsz]; exact hc.2⟩) (StsL.keep hcf ht)⟩, fun t ht3 => ?_⟩
   have hl := h.ln
   rcases t with _ | _ | _ | t
   ·rw [List.getElem?_set_ne (by omega)]
    exact r1
   ·rw [List.getElem?_set_ne (by omega)]
    exact r2
   ·rw [List.getElem?_set_self (by omega)]
    rfl
   ·omega
  ·obtain ⟨cs, h1, h2⟩ := h.d j y (by omega) hy
   exact ⟨cs, elTh.weak (fun c hc => ⟨hc.1, by rw [hsz]; exact hc.2⟩) (elTh.keep hcf h1), fun t ht3 => by rw [List.getElem?_set_ne (by omega)]; exact h2 t ht3⟩
 ·obtain ⟨r1, r2⟩ := h.r j y (by omega) hy
  exact ⟨by rw [List.getElem?_set_ne (by omega)]; exact r1, by rw [List.getElem?_set_ne (by omega)]; exact r2⟩
theorem Tq.ro {cap : Nat} (h : Tq B T.length g T C W) (hr : Roomy T.length cap) : Ro elTh (B ≤ ·) W (.slice (some ⟨g, 0, none⟩) T.length cap) T := by
 refine ⟨some ⟨g, 0, none⟩, cap, rfl, hr, fun j x hx => ?_⟩
 have hj := (List.getElem?_eq_some_iff.1 hx).1
 obtain ⟨cs, h1, h2⟩ := h.d j x hj hx
 refine ⟨g, 0, cs, rfl, h.ge, fun t v hv => ?_, elTh.weak (fun c hc => hc.1.1) h1⟩
 have h3 : t < 3 := by
  have := (List.getElem?_eq_some_iff.1 hv).1
  have h4 := (elTh.cells h1).1
  rw [h4] at this
  exact this
 refine World.cellF_mk (c := C.toArray) (ty := 71) h.k ?_
 rw [h.k.cell]
 show C[0 + j * 3 + t]? = some v
 rw [Nat.zero_add, h2 t h3]
 exact hv
end
/-- The lists of the copy, while the threads are done. -/
structure Ck3 (ok : Nat → Prop) (P : Pg) (v0 v1 v4 : Value) (W : World) : Prop where
 v : Ro (elI 2) ok W v0 P.vars
 a : Ro (elI 3) ok W v1 P.arrays
 c : Ro (elI 3) ok W v4 P.chans
theorem Ck3.keep {ok : Nat → Prop} {P : Pg} {v0 v1 v4 : Value} {W W' : World} (h : Ck3 ok P v0 v1 v4 W) (g : ∀ (b o : Nat) (u : Value), ok b → W.cellF ⟨b, o, none⟩ = some u → W'.cellF ⟨b, o, none⟩ = some u) : Ck3 ok P v0 v1 v4 W' := ⟨h.v.keep g, h.a.keep g, h.c.keep g⟩
theorem cp_loop {w W : World} {P : Pg} {v0 v1 v4 y0 y1 y4 y5 n0 n1 n2 n3 n4 : Value} {ga : Option Addr} {gc : Nat} (hP : Hid (PgL (fun _ => True) w P y0 y1 y4 y5 n0 n1 n2 n3 n4)) (hN : Hid (P.nv.length ≤ 10000000 ∧ P.na.length ≤ 10000000 ∧ P.nm.length ≤ 10000000 ∧ P.nc.length ≤ 10000000 ∧ P.nh.length ≤ 10000000))
  (hB : Hid (∀ x ∈ P.threads, St.szs x.body ∧ St.cns x.body ≤ 90000 ∧ x.body.length ≤ 10000000)) (hR : Hid (Roomy P.threads.length gc))
  (E : Hid (Cq w (pgC P y0 y1 y4 y5 n0 n1 n2 n3 n4 []) (pgC P v0 v1 v4 (.slice ga P.threads.length gc) n0 n1 n2 n3 n4 []) W)) (HC : Hid (Ck3 (fun c => w.heap.size + 3 ≤ c ∧ ga ≠ some ⟨c, 0, none⟩) P v0 v1 v4 W)) (HT : Hid (P.threads = [] ∨ ∃ g C, ga = some ⟨g, 0, none⟩ ∧ Tq (w.heap.size + 3) 0 g P.threads C W)) {x0 : Value} {l2 : List Value} (hU : l2.length = 57 := by rfl) :
  Code.wp Tryz.prog (dropS 4 (Tryz.f20.body.getD .skip)) (bodyPost Tryz.prog Tryz.f20 (CpyR w P)) ⟨(x0 :: Pt w.heap.size :: Pt (w.heap.size + 1) :: Pt (w.heap.size + 2) :: l2).toArray, []⟩ W := by
 revert l2
 apply aN
 iterate 57 intro _
 change Code.wp _ _ _ _ _
 obtain ⟨i8, z8, f6, g2, g5⟩ := zero71
 obtain ⟨d8, e8, r8⟩ := under71
 have h4 : Tryz.prog.follows .mixedOrders = true := by kernel_rfl
 obtain ⟨a5, c5, hu5, hr5, hl5⟩ := id hP.out.threads
 subst hu5
 have HL5 := O hl5
 have HR5 := O hr5
 clear hl5 hr5
 obtain ⟨C, hN2⟩ := eX P.threads.length
 have HQ := O hN2
 have c6 : W.cell? ⟨w.heap.size, 5, none⟩ = some (.slice a5 C c5) := by rw [E.out.p.cell, ← hN2]; rfl
 have i5 : Hid (C ≤ 9223372036854775807) := O (by rw [← hN2]; have := HR5.out; exact Nat.le_trans this.1 this.2)
 clear hN2
 conv in (dropS _ _) => whnf
 refine wk fun KK U => ?_
 go_wp2_with fail
 clear c6
 go_loopg [27] C (fun x iv wr => ∃ (i : Nat), i ≤ C ∧ x = C - i ∧ iv = I i ∧ Hid (Cq w (pgC P y0 y1 y4 (.slice a5 P.threads.length c5) n0 n1 n2 n3 n4 []) (pgC P v0 v1 v4 (.slice ga P.threads.length gc) n0 n1 n2 n3 n4 []) wr) ∧ Hid (Ck3 (fun c => w.heap.size + 3 ≤ c ∧ ga ≠ some ⟨c, 0, none⟩) P v0 v1 v4 wr) ∧ Hid (P.threads = [] ∨ ∃ g D, ga = some ⟨g, 0, none⟩ ∧ Tq (w.heap.size + 3) i g P.threads D wr))
 case atStart => exact ⟨0, Nat.zero_le _, rfl, rfl, E, HC, HT⟩
 case round =>
  clear E HC HT
  obtain ⟨i, hi, rfl, rfl, E, HC, HT⟩ := hrel
  by_cases a6 : i < C
  ·have h9 : (i : Int) < (C : Int) := by omega
   have h8 : (0 : Int) ≤ (i : Int) := by omega
   have f4 : Hid (wrap64 ((i : Int) + 1) = ((i + 1 : Nat) : Int)) := O (by
    have h1 := i5.out
    have := IntWalk.wrap64_in ((i : Int) + 1) (by omega)
    rw [this]
    omega)
   obtain ⟨x, hx⟩ : ∃ x, P.threads[i]? = some x := ⟨_, List.getElem?_eq_getElem (by rw [HQ.out]; exact a6)⟩
   obtain ⟨b2, of, cs, rfl, -, hr, hL⟩ := HL5.out i x hx
   obtain ⟨ba, bc, rfl, hrb, hsb⟩ := hL
   have HXB := O (hB.out x (List.mem_of_getElem? hx))
   have HX := O (And.intro hx (And.intro hrb hsb))
   obtain ⟨NB, hNB⟩ := eX x.body.length
   have HNB := O hNB
   rw [hNB] at hr
   obtain ⟨g, D, rfl, hTq⟩ : ∃ g D, ga = some ⟨g, 0, none⟩ ∧ Tq (w.heap.size + 3) i g P.threads D wr := by
    rcases HT.out with h | h
    ·have := HQ.out
     rw [h] at this
     simp at this
     omega
    ·exact h
   have HTq := O hTq
   have HRw : Hid (wr.rangeAt b2 (of + i * 3) [.string x.name, .int .i64 (x.locals : Int), .slice ba NB bc]) := O fun t v hv => below_cl E.out.b _ _ _ (World.cellF_cell (hr t v hv))
   have hc3 : Hid (([.string x.name, .int .i64 (x.locals : Int), .slice ba NB bc] : List Value).length = 3 ∧ ∀ v ∈ ([.string x.name, .int .i64 (x.locals : Int), .slice ba NB bc] : List Value), v.oneCell' = true) := O ⟨rfl, fun v hv => by
    simp only [List.mem_cons, List.not_mem_nil, or_false] at hv
    rcases hv with rfl | rfl | rfl <;> rfl⟩
   clear hx hrb hsb hNB hTq hr HT
   obtain ⟨b5, hb5⟩ := eX wr.heap.size
   go_wp2_with (first
    | ((with_reducible refine l1 31 71 ?_); refine wpList_load_mid rfl 71 (.tmp 30) rfl b2 (of + i * 3) rfl [.string x.name, .int .i64 (x.locals : Int), .slice ba NB bc] d8 HRw.out e8 r8 info71 ?_)
    | ((with_reducible refine at1 5 (.alloc 71) ?_); refine wpList_alloc_blk f6 g2 g5 rfl rfl b5 hb5 ?_; intro W1 k1 b1 s1; have K1 := O k1; have B1 := O b1; clear k1 b1 s1)
    | ((with_reducible refine s0 71 ?_); refine wpList_store_ch info71 rfl (.tmp 5) (.tmp 31) rfl b5 [.string x.name, .int .i64 (x.locals : Int), .slice ba NB bc] _ rfl rfl K1.out rfl hc3.out ?_; intro W2 k2 c2; have K2 := O k2; have B2 : Hid (bL wr W2) := O (c2.below (by omega) B1.out); clear k2 c2 K1 B1)
    )
   obtain ⟨V, hV⟩ := eX W2.drew
   have hb : bL wr V := by rw [← hV]; exact B2.out.drew
   have KV : Hid (Blk V b5 71 [.string x.name, .int .i64 (x.locals : Int), .slice ba NB bc]) := O (by rw [← hV]; exact K2.out.drew)
   have EV := O (E.out.below hb)
   have HCV := O (HC.out.keep fun b o u _ hu => below_cell hb b o u hu)
   have HTV := O (HTq.out.below hb)
   clear E HC HTq K2 B2 hb hb5 HRw
   refine wp_region_x [8] (fun W => bL V W) h4 ?_
   rw [hV]
   clear hV
   have HS : Hid (bL V V) := O (Below.refl _ _)
   refine tK1 0 ?_
   refine tKf (fun W => W.cell? ⟨w.heap.size + 2, 5, none⟩ = some (.slice (some ⟨g, 0, none⟩) C gc)) 1 (fun W h => by rw [((EV.out.below h).o).cell, ← HQ.out]; rfl) ?_
   refine tK2 2 ?_
   refine tKf (fun W => W.cell? ⟨b5, 2, none⟩ = some (.slice ba NB bc)) 4 (fun W h => by rw [(KV.out.below h).cell]; rfl) ?_
   refine nm ?_
   refine oD 5 fun K F => ?_
   go_simp
   have hcall := copyB_any (w := V) ba bc x.body HX.out.2.1 HXB.out.2.2 HXB.out.1 HXB.out.2.1 (StsL.keep (fun b o v _ hv => below_cell EV.out.b b o v hv) HX.out.2.2)
   rw [HNB.out] at hcall
   refine hcall.mono ?_
   clear hcall
   rintro e W3 ⟨hb3, a3, c3, rfl, hr3, ht3⟩
   have P3 : Hid (bL V W3) := O hb3
   have E3 := O (EV.out.below hb3)
   have HC3 := O (HCV.out.keep fun b o u _ hu => below_cell hb3 b o u hu)
   have HT3 := O (HTV.out.below hb3)
   have HB3 : Hid (Roomy x.body.length c3 ∧ StsL (fun c => (w.heap.size + 3 ≤ c ∧ c ≠ g) ∧ c < W3.heap.size) W3 a3 0 x.body) := O ⟨by rw [HNB.out]; exact hr3, (StsL.bound ht3).weak fun c hc => by
    have h1 : V.heap.size ≤ c := hc.1
    have h2 := EV.out.lt
    have h3 := HTV.out.k.lt
    exact ⟨⟨by omega, by omega⟩, hc.2⟩⟩
   apply F _ _ (fun _ => P3.out)
   clear F K hb3 hr3 ht3 EV HCV HTV KV
   refine tK2 6 ?_
   refine nm ?_
   refine oD 8 fun K F => ?_
   have hi3 : Hid (i * 3 + 2 < D.length) := O (by have h1 := HT3.out.ln; rw [HQ.out] at h1; omega)
   refine wp_store_one (by kernel_rfl) (.tmp 39) (.tmp 37) rfl g (i * 3 + 2) 71 (.slice a3 NB c3) D rfl rfl rfl rfl HT3.out.k hi3.out ?_
   intro W4 k4 c4
   have hg3 := HT3.out.ge
   rw [← HNB.out] at k4
   have T4 := O (HT3.out.set HX.out.1 HB3.out.1 HB3.out.2 k4 c4)
   have E4 : Hid (Cq w (pgC P y0 y1 y4 (.slice (some ⟨b2, of, none⟩) P.threads.length c5) n0 n1 n2 n3 n4 []) (pgC P v0 v1 v4 (.slice (some ⟨g, 0, none⟩) P.threads.length gc) n0 n1 n2 n3 n4 []) W4) := O (E3.out.belowB (c4.below hg3 (Below.refl _ _)))
   have HC4 := O (HC3.out.keep fun b o u hb hu => by
    rw [c4.cellF (fun e => hb.2 (by rw [e]))]
    exact hu)
   apply F _ _ nofun
   clear F K k4 c4 E3 HC3 HT3 HB3
   simp only [Act.put]
   refine dn ?_
   go_wp2_with fail
   go_roundg (C - (i + 1))
   case measure => omega
   case rel => exact ⟨i + 1, by omega, rfl, congrArg (Value.int .i64) f4.out, E4, HC4, O (.inr ⟨_, _, rfl, T4.out⟩)⟩
  ·obtain rfl : i = C := by omega
   have i2 : ¬ (i : Int) < (i : Int) := by omega
   go_wp2_with fail
   refine U.out _ _ ?_
   refine cp_tail hP hN E (O ⟨HC.out.v.weak fun _ h => h.1, HC.out.a.weak fun _ h => h.1, HC.out.c.weak fun _ h => h.1, ?_⟩)
   rcases HT.out with h | ⟨g, D, rfl, h⟩
   ·have e : P.threads.length = 0 := by rw [h]; rfl
    rw [h]
    exact ⟨ga, gc, rfl, by rw [← h]; exact hR.out, fun j x hx => by simp at hx⟩
   ·rw [← HQ.out] at h
    exact h.ro hR.out
end Go.Proofs.YtgppcdfgdaggjaaGreatDoor
set_option maxRecDepth 100000
set_option maxHeartbeats 8000000
namespace Go.Proofs.YtgppcdfgdaggjaaGreatDoor
open Go.RowKit Go.Maps
/-- The lists of a program are not too long. -/
structure PgB (P : Pg) : Prop where
 v : P.vars.length ≤ 10000000
 a : P.arrays.length ≤ 10000000
 c : P.chans.length ≤ 10000000
 t : P.threads.length ≤ 10000000
 n : P.nv.length ≤ 10000000 ∧ P.na.length ≤ 10000000 ∧ P.nm.length ≤ 10000000 ∧ P.nc.length ≤ 10000000 ∧ P.nh.length ≤ 10000000
 b : ∀ x ∈ P.threads, St.szs x.body ∧ St.cns x.body ≤ 90000 ∧ x.body.length ≤ 10000000
theorem Grow.roN {α : Type} {E : El α} {B : Nat} {w : World} {v : Value} {l : List α} {ga : Option Addr} (h : Grow E B w v l) (hz : 0 < E.sz) (hg : ∀ b, ga = some ⟨b, 0, none⟩ → w.heap.size ≤ b) : Ro E (fun c => B ≤ c ∧ ga ≠ some ⟨c, 0, none⟩) w v l := by
 obtain ⟨a, cap, rfl, D⟩ := h.form
 have hlt : ∀ c, c < w.heap.size → ga ≠ some ⟨c, 0, none⟩ := fun c hc e => by have := hg c e; omega
 refine ⟨a, cap, rfl, D, fun j x H => ?_⟩
 obtain ⟨b, g, cs, A, G, C, F⟩ := h.at j x H
 have hb : b < w.heap.size := World.block_lt_of_cellF w (C 0 _ (List.getElem?_eq_getElem (by rw [(E.cells F).1]; exact hz)))
 exact ⟨b, g, cs, A, ⟨G, hlt b hb⟩, C, E.weak (fun c hc => ⟨hc.1, hlt c hc.2⟩) (E.bound F)⟩
/-- A clone of the threads: the same cells in a new row. -/
theorem clone_th {w : World} {ok : Nat → Prop} {v : Value} {T : List Th} (h : Ro elTh ok w v T) (hl : T.length ≤ 10000000) : Calls Tryz.prog 49 #[v] w fun e w' => bL w w' ∧ ∃ ga gc, e = .returned (.slice ga T.length gc) ∧ Roomy T.length gc ∧ (ga = none ∧ T = [] ∨ ∃ g C, ga = some ⟨g, 0, none⟩ ∧ Tq w.heap.size 0 g T C w') := by
 obtain ⟨cells, hc, h1, h2⟩ := clone49 w ok v T h hl
 refine h2.mono ?_
 rintro e w' ⟨hb, u, rfl, ho⟩
 refine ⟨hb, ?_⟩
 rcases ho.2 with ⟨rfl, hn⟩ | ⟨g, cap, cur, rfl, hg, hh, hnc, hm, hcs, htk⟩
 ·have e : T = [] := List.length_eq_zero_iff.1 hn
  exact ⟨none, 0, by rw [hn], by rw [hn]; exact ⟨Nat.le_refl _, by decide⟩, .inl ⟨rfl, e⟩⟩
 ·refine ⟨some ⟨g, 0, none⟩, cap, rfl, ⟨hnc, hm⟩, .inr ⟨g, cur.toList, rfl, hh, hg, ?_, fun j x hj => absurd hj (Nat.not_lt_zero _), fun j x _ hx => ?_⟩⟩
  ·show T.length * 3 ≤ cur.toList.length
   have h9 : cur.toList.length = cap * 3 := by rw [Array.length_toList]; exact hcs
   rw [h9]
   exact Nat.mul_le_mul_right _ hnc
  ·have hj := (List.getElem?_eq_some_iff.1 hx).1
   obtain ⟨cs, hcs2⟩ : ∃ cs, cells[j]? = some cs := ⟨_, List.getElem?_eq_getElem (by omega)⟩
   obtain ⟨a, c2, rfl, -, -⟩ := h1 j cs x hcs2 hx
   have hlen : ∀ c ∈ cells, c.length = 3 := fun c A => by
    obtain ⟨i, R, rfl⟩ := List.mem_iff_getElem.1 A
    exact (elTh.cells (h1 i _ _ (List.getElem?_eq_getElem R) (List.getElem?_eq_getElem (by omega)))).1
   have hf : ∀ t, t < 3 → cur.toList[j * 3 + t]? = cells.flatten[j * 3 + t]? := fun t ht => by
    rw [← htk, List.getElem?_take_of_lt (by show j * 3 + t < T.length * 3; omega)]
   have h0 := hf 0 (by decide)
   have h1' := hf 1 (by decide)
   rw [flatten_at cells j 0 _ hlen hcs2 (by decide)] at h0
   rw [flatten_at cells j 1 _ hlen hcs2 (by decide)] at h1'
   exact ⟨h0, h1'⟩
theorem pgcopy_any {w : World} {P : Pg} {ps : List Value} (hP : PgRL (fun _ => True) w P ps) (hB : PgB P) : Calls Tryz.prog 20 #[.agg ps.toArray] w (CpyR w P) := by
 obtain ⟨y0, y1, y4, y5, n0, n1, n2, n3, n4, rfl, hL⟩ := hP
 obtain ⟨i8, z8, f6, g2, g5⟩ := zero30
 obtain ⟨d8, e8, r8⟩ := under30
 have h4 : Tryz.prog.follows .mixedOrders = true := by kernel_rfl
 have HP := O hL
 have HB := O hB
 have hone : Hid ((pgC P y0 y1 y4 y5 n0 n1 n2 n3 n4 []).length = 13 ∧ ∀ v ∈ pgC P y0 y1 y4 y5 n0 n1 n2 n3 n4 [], v.oneCell' = true) := O (PgRL.cells ⟨y0, y1, y4, y5, n0, n1, n2, n3, n4, rfl, hL⟩)
 clear hL hB
 obtain ⟨ps, hps⟩ := eX (pgC P y0 y1 y4 y5 n0 n1 n2 n3 n4 [])
 rw [hps] at hone ⊢
 have HPS := O hps
 clear hps
 have hl13 := hone.out.1
 go_enter Tryz.func20, Tryz.ntmps20
 refine wk fun KK U => ?_
 go_wp2_with (first
  | ((with_reducible refine at1 1 (.box 30 _) ?_); refine wpList_box_blk rfl (.tmp 0) rfl ps rfl w.heap.size rfl ?_; intro W1 k1 b1 s1; have K1 := O k1; have B1 := O b1; clear k1 b1)
  | ((with_reducible refine at1 2 (.alloc 30) ?_); refine wpList_alloc_blk f6 g2 g5 rfl rfl (w.heap.size + 1) s1 ?_; intro W2 k2 b2 s2; have K2 := O k2; have B2 := O b2; clear k2 b2)
 )
 refine U.out _ _ ?_
 clear U KK
 refine wk fun KK U => ?_
 have K12 := O (K1.out.below B2.out)
 go_wp2_with (first
  | ((with_reducible refine l1 7 30 ?_); refine wpList_load_blk e8 r8 info30 rfl (.tmp 1) rfl w.heap.size ps rfl (O K12.out) hl13 ?_)
  | ((with_reducible refine at1 3 (.alloc 30) ?_); refine wpList_alloc_blk f6 g2 g5 rfl rfl (w.heap.size + 2) s2 ?_; intro W3 k3 b3 s3; have K3 := O k3; have B3 := O b3; clear k3 b3)
  | ((with_reducible refine s0 30 ?_); refine wpList_store_ch info30 rfl (.tmp 3) (.tmp 7) rfl (w.heap.size + 2) ps _ rfl rfl K3.out rfl hone.out ?_; intro W4 k4 c4; have K4 := O (And.intro k4 c4); clear k4 c4)
 )
 refine U.out _ _ ?_
 clear U KK
 have hb12 : Below w.heap.size w W2 := B1.out.trans (B2.out.mono B1.out.size)
 have hb23 : bL w W3 := hb12.trans (B3.out.mono hb12.size)
 have E4 : Hid (Cq w ps ps W4) := O ⟨K4.out.2.below (by omega) hb23, K4.out.2.blk (by omega) (K12.out.below B3.out), K4.out.2.blk (by omega) (K2.out.below B3.out), K4.out.1⟩
 clear K1 B1 K2 B2 K12 K3 B3 K4 hb12 hb23 s1 s2
 rw [← HPS.out] at E4
 clear hone HPS hl13
 refine wk fun KK U => ?_
 obtain ⟨V, hV⟩ := eX W4.drew
 have EV := O (E4.out.below (show bL W4 V by rw [← hV]; exact (Below.refl _ _).drew))
 clear E4
 go_wp2
 refine wp_region_x [10, 11, 12, 13, 14] (fun W => bL V W) h4 ?_
 rw [hV]
 clear hV
 have HS : Hid (bL V V) := O (Below.refl _ _)
 refine tK1 0 ?_
 refine tKf (fun W => W.cell? ⟨w.heap.size, 0, none⟩ = some y0) 1 (fun W h => by rw [((EV.out.below h).p).cell]; rfl) ?_
 refine tK1 3 ?_
 refine tKf (fun W => W.cell? ⟨w.heap.size, 1, none⟩ = some y1) 4 (fun W h => by rw [((EV.out.below h).p).cell]; rfl) ?_
 refine nm ?_
 refine tK1 6 ?_
 refine tKf (fun W => W.cell? ⟨w.heap.size, 4, none⟩ = some y4) 7 (fun W h => by rw [((EV.out.below h).p).cell]; rfl) ?_
 refine nm ?_
 refine oD 2 fun K F => ?_
 go_simp
 refine (clone_grow clone47 (flI 2) (w := V) (HP.out.vars.keep fun b o u _ hu => below_cell EV.out.b b o u hu) HB.out.v).mono ?_
 rintro e A0 ⟨hb, a0, c0, rfl, hg⟩
 have P0 : Hid (bL V A0) := O hb
 have G0 : Hid (Grow (elI 2) (w.heap.size + 3) A0 (.slice a0 P.vars.length c0) P.vars) := O (Grow.base hg EV.out.lt)
 apply F _ _ (fun _ => P0.out)
 clear F K hb hg
 refine tK1 9 ?_
 refine nm ?_
 refine oD 5 fun K F => ?_
 go_simp
 refine (clone_grow clone48 (flI 3) (w := A0) (HP.out.arrays.keep fun b o u _ hu => below_cell (EV.out.b.trans (P0.out.mono EV.out.b.size)) b o u hu) HB.out.a).mono ?_
 rintro e A1 ⟨hb, a1, c1, rfl, hg⟩
 have P1 : Hid (bL V A1) := O (P0.out.trans (hb.mono P0.out.size))
 have G1 : Hid (Grow (elI 3) (w.heap.size + 3) A1 (.slice a1 P.arrays.length c1) P.arrays) := O (Grow.base hg (Nat.le_trans EV.out.lt P0.out.size))
 have G01 := O (G0.out.below hb)
 apply F _ _ (fun _ => P1.out)
 clear F K hb hg G0
 refine oD 8 fun K F => ?_
 go_simp
 refine (clone_grow clone48 (flI 3) (w := A1) (HP.out.chans.keep fun b o u _ hu => below_cell (EV.out.b.trans (P1.out.mono EV.out.b.size)) b o u hu) HB.out.c).mono ?_
 rintro e A2 ⟨hb, a2, c2, rfl, hg⟩
 have P2 : Hid (bL V A2) := O (P1.out.trans (hb.mono P1.out.size))
 have G2 : Hid (Grow (elI 3) (w.heap.size + 3) A2 (.slice a2 P.chans.length c2) P.chans) := O (Grow.base hg (Nat.le_trans EV.out.lt P1.out.size))
 have G02 := O (G01.out.below hb)
 have G12 := O (G1.out.below hb)
 have E2 := O (EV.out.below P2.out)
 apply F _ _ (fun _ => P2.out)
 clear F K hb hg G01 G1 EV
 refine oD 10 fun K F => ?_
 refine wp_store_one (by kernel_rfl) (.tmp 17) (.tmp 10) rfl (w.heap.size + 2) 0 30 (.slice a0 P.vars.length c0) _ rfl rfl rfl rfl E2.out.o (by simp [pgC]) ?_
 intro W5 k5 c5
 have E5 : Hid (Cq w (pgC P y0 y1 y4 y5 n0 n1 n2 n3 n4 []) (pgC P (.slice a0 P.vars.length c0) y1 y4 y5 n0 n1 n2 n3 n4 []) W5) := O (E2.out.setO k5 c5)
 have G5 := O (And.intro (c5.grow G02.out (by omega)) (And.intro (c5.grow G12.out (by omega)) (c5.grow G2.out (by omega))))
 apply F _ _ nofun
 clear F K k5 c5 E2 G02 G12 G2
 refine oD 11 fun K F => ?_
 go_simp
 apply F _ _ nofun
 clear F K
 refine oD 12 fun K F => ?_
 refine wp_store_one (by kernel_rfl) (.tmp 18) (.tmp 13) rfl (w.heap.size + 2) 1 30 (.slice a1 P.arrays.length c1) _ rfl rfl rfl rfl E5.out.o (by simp [pgC]) ?_
 intro W6 k6 c6
 have E6 : Hid (Cq w (pgC P y0 y1 y4 y5 n0 n1 n2 n3 n4 []) (pgC P (.slice a0 P.vars.length c0) (.slice a1 P.arrays.length c1) y4 y5 n0 n1 n2 n3 n4 []) W6) := O (E5.out.setO k6 c6)
 have G6 := O (And.intro (c6.grow G5.out.1 (by omega)) (And.intro (c6.grow G5.out.2.1 (by omega)) (c6.grow G5.out.2.2 (by omega))))
 apply F _ _ nofun
 clear F K k6 c6 E5 G5
 refine oD 13 fun K F => ?_
 go_simp
 apply F _ _ nofun
 clear F K
 refine oD 14 fun K F => ?_
 refine wp_store_one (by kernel_rfl) (.tmp 19) (.tmp 16) rfl (w.heap.size + 2) 4 30 (.slice a2 P.chans.length c2) _ rfl rfl rfl rfl E6.out.o (by simp [pgC]) ?_
 intro W7 k7 c7
 have E7 : Hid (Cq w (pgC P y0 y1 y4 y5 n0 n1 n2 n3 n4 []) (pgC P (.slice a0 P.vars.length c0) (.slice a1 P.arrays.length c1) (.slice a2 P.chans.length c2) y5 n0 n1 n2 n3 n4 []) W7) := O (E6.out.setO k7 c7)
 have G7 := O (And.intro (c7.grow G6.out.1 (by omega)) (And.intro (c7.grow G6.out.2.1 (by omega)) (c7.grow G6.out.2.2 (by omega))))
 apply F _ _ nofun
 clear F K k7 c7 E6 G6 P0 P1 P2 HS
 simp only [Act.put]
 refine dn ?_
 go_wp2_with fail
 refine U.out _ _ ?_
 clear U KK
 refine wk fun KK U => ?_
 have c5 : W7.cell? ⟨w.heap.size, 5, none⟩ = some y5 := by rw [E7.out.p.cell]; rfl
 have hcl := clone_th (w := W7) (HP.out.threads.keep fun b o u _ hu => below_cell E7.out.b b o u hu) HB.out.t
 go_wp2_with fail
 refine hcl.mono ?_
 clear hcl c5
 rintro e W8 ⟨hb, ga, gc, rfl, hrm, hT⟩
 have E8 := O (E7.out.below hb)
 have hga : ∀ b, ga = some ⟨b, 0, none⟩ → W7.heap.size ≤ b := fun b e => by
  rcases hT with ⟨h, -⟩ | ⟨g, C, h1, h2⟩
  ·rw [e] at h
   cases h
  ·rw [e] at h1
   cases h1
   exact h2.ge
 have hk8 : ∀ (b o : Nat) (u : Value), W7.cellF ⟨b, o, none⟩ = some u → W8.cellF ⟨b, o, none⟩ = some u := fun b o u hu => below_cell hb b o u hu
 have HC8 : Hid (Ck3 (fun c => w.heap.size + 3 ≤ c ∧ ga ≠ some ⟨c, 0, none⟩) P (.slice a0 P.vars.length c0) (.slice a1 P.arrays.length c1) (.slice a2 P.chans.length c2) W8) := O ⟨(G7.out.1.roN (by decide) hga).keep fun b o u _ => hk8 b o u, (G7.out.2.1.roN (by decide) hga).keep fun b o u _ => hk8 b o u, (G7.out.2.2.roN (by decide) hga).keep fun b o u _ => hk8 b o u⟩
 have HT8 : Hid (P.threads = [] ∨ ∃ g C, ga = some ⟨g, 0, none⟩ ∧ Tq (w.heap.size + 3) 0 g P.threads C W8) := O (by
  rcases hT with ⟨-, h⟩ | ⟨g, C, h1, h2⟩
  ·exact .inl h
  ·refine .inr ⟨g, C, h1, h2.k, Nat.le_trans E7.out.lt h2.ge, h2.ln, fun j x hj => absurd hj (Nat.not_lt_zero _), h2.r⟩)
 have HR := O hrm
 clear hb hrm hT hga hk8 E7 G7
 obtain ⟨NT, hNT⟩ := eX P.threads.length
 have HNT := O hNT
 rw [hNT]
 go_wp2_with (first
  | ((with_reducible refine s0 25 ?_); refine wpList_store_one (by kernel_rfl) rfl (.tmp 23) (.tmp 22) rfl (w.heap.size + 2) 5 30 (.slice ga NT gc) _ rfl rfl rfl rfl E8.out.o (by simp [pgC]) ?_; intro W9 k9 c9; have K9 := O (And.intro k9 c9); clear k9 c9)
 )
 refine U.out _ _ ?_
 have E9 : Hid (Cq w (pgC P y0 y1 y4 y5 n0 n1 n2 n3 n4 []) (pgC P (.slice a0 P.vars.length c0) (.slice a1 P.arrays.length c1) (.slice a2 P.chans.length c2) (.slice ga P.threads.length gc) n0 n1 n2 n3 n4 []) W9) := O (E8.out.setO (by have h := K9.out.1; rw [HNT.out]; exact h) K9.out.2)
 have HC9 := O (HC8.out.keep fun b o u hb hu => by
  rw [K9.out.2.cellF (by have := hb.1; omega)]
  exact hu)
 have HT9 : Hid (P.threads = [] ∨ ∃ g C, ga = some ⟨g, 0, none⟩ ∧ Tq (w.heap.size + 3) 0 g P.threads C W9) := O (HT8.out.imp id fun ⟨g, C, h1, h2⟩ => ⟨g, C, h1, h2.ch K9.out.2 (by omega)⟩)
 exact cp_loop HP (O HB.out.n) (O HB.out.b) HR E9 HC9 HT9
end Go.Proofs.YtgppcdfgdaggjaaGreatDoor
set_option maxRecDepth 100000
set_option maxHeartbeats 8000000
namespace Go.Proofs.YtgppcdfgdaggjaaGreatDoor
open Go.RowKit Go.Maps
/-- All statements of threads, with the thread's number. -/
def ovL : Nat → List Th → List Yv
 | _, [] => []
 | i, x :: r => (wkL 1 x.body).map (fun y => ((i : Int), y.2)) ++ ovL (i + 1) r
theorem ovL_app : ∀ (i : Nat) (l m : List Th), ovL i (l ++ m) = ovL i l ++ ovL (i + l.length) m
 | i, [], m => by simp [ovL]
 | i, x :: l, m => by
  rw [List.cons_append, ovL, ovL, ovL_app (i + 1) l m, List.append_assoc, List.length_cons]
  congr 2
  congr 1
  omega
theorem over_any (ps : List Value) (w : World) : Calls Tryz.prog 45 #[.agg ps.toArray] w fun e w' => bL w w' ∧ ∃ bp, e = .returned (.func (.func 86) #[] #[Pt bp]) ∧ w.heap.size ≤ bp ∧ Blk w' bp 30 ps := by
 go_enter Tryz.func45, Tryz.ntmps45
 refine wk fun KK U => ?_
 go_wp2_with (first
  | ((with_reducible refine at1 1 (.box 30 _) ?_); refine wpList_box_blk rfl (.tmp 0) rfl ps rfl w.heap.size rfl ?_; intro W1 k1 b1 s1; have K1 := O k1; have B1 := O b1; clear k1 b1 s1)
 )
 refine U.out _ _ ?_
 clear U KK
 go_wp2_with fail
 go_ret
 exact ⟨B1.out, _, rfl, Nat.le_refl _, K1.out⟩
/-- The marks among the deferred calls. -/
def mks (Ds : List Nat) : List Deferred := Ds.map fun D => { target := .collected D, args := #[] }
/-- A function leaves over its marks. -/
theorem leave_mks {fn : Func} {tmps : Array Value} {R : Ending → World → Prop} {X : World → Prop} : ∀ (Ds : List Nat) (W : World), Ds.Nodup → (∀ D ∈ Ds, W.heap[D]? = some (.deferred (some []))) → X W → (∀ W D, D ∈ Ds → X W → W.heap[D]? = some (.deferred (some [])) → X (W.putObj D (.deferred none))) →
  (∀ W', X W' → ∃ v, (results fn tmps).run Tryz.prog W' = .ok v W' ∧ R (.returned v) W') → LeavesInM Fence.wide 0 Tryz.prog fn tmps R (mks Ds) .returning W
 | [], W, _, _, hx, _, h => h W hx
 | D :: Ds, W, hn, hd, hx, hX, h => by
  refine ⟨by simp, .inl ⟨D, _, rfl, run_takeDeferred (hd D (by simp)), ?_⟩⟩
  rw [List.nodup_cons] at hn
  exact leave_mks Ds _ hn.2 (fun D2 h2 => (World.putObj_heap_other (fun e => hn.1 (by rw [← e]; exact h2))).trans (hd D2 (by simp [h2]))) (hX W D (by simp) hx (hd D (by simp))) (fun W D hD => hX W D (by simp [hD])) h
/-- How it stands between two rounds over the threads. -/
structure Ov (own : World → Nat → Prop) (T0 : Nat → Prop) (B0 b2 : Nat) (W0 : World) (J : List Yv → World → Prop) (Ds : List Nat) (out : List Yv) (A : World) : Prop where
 j : J out A
 i : Wi own (fun k => T0 k ∨ k = b2) B0 W0 A
 n : Ds.Nodup
 d : ∀ D ∈ Ds, B0 ≤ D ∧ A.heap[D]? = some (.deferred (some []))
theorem Ov.below {own : World → Nat → Prop} {T0 : Nat → Prop} {B0 b2 : Nat} {W0 A A2 : World} {J : List Yv → World → Prop} {Ds : List Nat} {out : List Yv} (h : Ov own T0 B0 b2 W0 J Ds out A) (hJ : OwnFrom B0 J) (hab : OwnAb B0 own J) (g : bL A A2) : Ov own T0 B0 b2 W0 J Ds out A2 :=
 ⟨hJ _ _ _ none h.j (grown_below g) (fun r e => by cases e), h.i.below g (hab _ _ _ none h.j (grown_below g) (fun r e => by cases e)), h.n, fun D hD => ⟨(h.d D hD).1, (g.block D (Array.getElem?_eq_some_iff.1 (h.d D hD).2).1).trans (h.d D hD).2⟩⟩
theorem Wi.grown {own : World → Nat → Prop} {T : Nat → Prop} {B0 B : Nat} {W0 A C : World} {row : Option Nat} (h : Wi own T B0 W0 A) (hT : ∀ k, T k → k < B) (g : A.grownBy C row) (hr : ∀ r, row = some r → B ≤ r ∧ ∃ o : Obj, A.heap[r]? = some o ∧ o.isCells = false) (ho : ∀ k, own C k → own A k) : Wi own T B0 W0 C :=
 ⟨fun k hk => ⟨Nat.lt_of_lt_of_le (h.t k hk).1 g.size, fun hh => (h.t k hk).2 (ho k hh)⟩, fun k hk => (g.block k (h.t k hk).1 fun e => by
  have h1 := (hr k e.symm).1
  have h2 := hT k hk
  omega).trans (h.kp k hk), Nat.le_trans h.sz g.size⟩
theorem Kk.keeps {own : World → Nat → Prop} {B0 B : Nat} {A A2 : World} (h : Kk own A A2) (hB : B0 ≤ B) (hl : ∀ k, own A k → k < A.heap.size ∧ (B0 ≤ k → ∃ o : Obj, A.heap[k]? = some o ∧ o.isCells = true)) : KeepsFrom B A A2 := ⟨h.size, fun k o hk ho hc => by
 refine (h.keep k (Array.getElem?_eq_some_iff.1 ho).1 fun hh => ?_).trans ho
 obtain ⟨o2, h1, h2⟩ := (hl k hh).2 (by omega)
 rw [ho] at h1
 cases h1
 rw [hc] at h2
 cases h2⟩
theorem zeroC3 : ∃ i z, Tryz.prog.info? 3 = some i ∧ i.zero = some z ∧ z.cells = ([.int .i64 0] : List Value).toArray := infoZ (by kernel_rfl)
theorem info3' : (Tryz.prog.info? 3).map (·.size) = some 1 := by kernel_rfl
def slot10 (C : Nat) (a : Act) : Nat := match a.tmps[10]? with
 | some (Value.int _ i) => C - i.toNat
 | _ => 0
theorem over_seq {w0 : World} {bp : Nat} {ps : List Value} {P : Pg} {T0 : Nat → Prop} (hb : T0 bp) (hk : Blk w0 bp 30 ps) (hP : PgRL T0 w0 P ps) (hT : ∀ k, T0 k → k < w0.heap.size) (hB : ∀ x ∈ P.threads, St.szs x.body ∧ St.cns x.body ≤ 90000 ∧ x.body.length ≤ 10000000) :
  SeqO Tryz.prog 86 #[Pt bp] T0 (ovL 0 P.threads) w0 := by
 intro l own J Jx W hW hTo hlt hab hJ hJx hY h0
 obtain ⟨y0, y1, y4, y5, n0, n1, n2, n3, n4, rfl, hL⟩ := hP
 obtain ⟨a5, c5, rfl, hr5, hl5⟩ := id hL.threads
 obtain ⟨i8, z8, f8, g8, q8⟩ := zero71
 obtain ⟨d8, e8, r8⟩ := under71
 obtain ⟨i3, z3, f3, g3, q3⟩ := zeroC3
 obtain ⟨i6, z6, f6, g6, q6⟩ := zero60
 obtain ⟨d9, h9, g2⟩ := under60
 have HL5 := O hl5
 have HH := O (And.intro hlt (And.intro hab (And.intro hJ hJx)))
 have HY := O hY
 have HB := O hB
 have HT0 := O (And.intro hb hT)
 have hw5 : W.cell? ⟨bp, 5, none⟩ = some (.slice a5 P.threads.length c5) := by rw [(hk.below hW).cell]; rfl
 have HI0 : Hid (Wi own T0 W.heap.size w0 W) := O ⟨fun k hk => ⟨Nat.lt_of_lt_of_le (hT k hk) hW.size, fun ho => hTo k ho hk⟩, fun k hk => hW.block k (hT k hk), Nat.le_refl _⟩
 have HJ0 := O h0
 obtain ⟨C, hN⟩ := eX P.threads.length
 have HQ := O hN
 have HC : Hid (C ≤ 9223372036854775807) := O (by rw [← hN]; exact Nat.le_trans hr5.1 hr5.2)
 rw [hN] at hw5
 have HW5 := O hw5
 clear hb hk hT hB hTo hlt hab hJ hJx hY h0 hL hr5 hl5 hW hN hw5
 show CallsIn Fence.wide 0 Tryz.prog 86 #[.func (.yield l) #[] #[], Pt bp] W _
 refine callsIn_of_wp_marks Tryz.func86 rfl trivial ?_ rfl
 simp only [Tryz.ntmps86, List.size_toArray, List.length_cons, List.length_nil, Nat.reduceAdd, Nat.reduceSub, Array.replicate_succ, Array.replicate_zero, List.push_toArray, List.append_toArray, List.nil_append, List.cons_append]
 refine wpIn_wide.2 ?_
 obtain ⟨b2, hb2⟩ := eX W.heap.size
 refine wk fun KK U => ?_
 go_wp2_with (first
  | ((with_reducible refine at1 2 (.box 173 _) ?_); refine wpList_box_blk rfl (.tmp 0) rfl [.func (.yield l) #[] #[]] rfl b2 hb2 ?_; intro W1 k1 b1 s1; have K1 := O k1; have B1 := O b1; clear k1 b1)
 )
 refine U.out _ _ ?_
 clear U KK
 have E1 : Hid (Ov own T0 W.heap.size b2 W1 J [] [] W1) := O (by
  have ho := HH.out.2.1 _ _ _ none HJ0.out (grown_below B1.out) (fun r e => by cases e)
  have h1 := HI0.out.below B1.out ho
  refine ⟨HH.out.2.2.1 _ _ _ none HJ0.out (grown_below B1.out) (fun r e => by cases e), ⟨fun k hk => ?_, fun k hk => rfl, h1.sz⟩, List.nodup_nil, fun D hD => by cases hD⟩
  rcases hk with hk | rfl
  ·exact h1.t k hk
  ·refine ⟨K1.out.lt, fun h => ?_⟩
   have := (HH.out.1 _ _ HJ0.out _ (ho _ h)).1
   omega)
 have HK1 : Hid (∀ k, T0 k → W1.heap[k]? = w0.heap[k]?) := O fun k hk => (B1.out.block k (HI0.out.t k hk).1).trans (HI0.out.kp k hk)
 have c5w : W1.cell? ⟨bp, 5, none⟩ = some (.slice a5 C c5) := below_cl B1.out _ _ _ HW5.out
 clear HI0 HJ0 HW5 B1 s1
 refine wk fun KK U => ?_
 go_wp2_with fail
 refine U.out _ _ ?_
 clear U KK c5w
 refine wp_block ?_
 refine wp_loop (fun a A => ∃ (i : Nat) (Ds : List Nat) (x3 x4 x5 x6 : Value) (L : List Value), i ≤ C ∧ L.length = 16 ∧ a = ⟨(.func (.yield l) #[] #[] :: Pt bp :: Pt b2 :: x3 :: x4 :: x5 :: x6 :: .pointer (some ⟨bp, 5, none⟩) :: .slice a5 C c5 :: I C :: I i :: L).toArray, mks Ds⟩ ∧ Hid (Ov own T0 W.heap.size b2 W1 J Ds (ovL 0 (P.threads.take i)) A)) (fun a _ => slot10 C a) ?_ ?_
 ·exact ⟨0, [], _, _, _, _, _, Nat.zero_le _, rfl, rfl, by simpa [ovL] using E1⟩
 clear E1
 rintro a A ⟨i, Ds, x3, x4, x5, x6, L, hi, hLn, rfl, E⟩
 obtain ⟨Kf, hKf⟩ : ∃ Kf : Act → World → Prop, (fun a' w' => (∃ (i : Nat) (Ds : List Nat) (x3 x4 x5 x6 : Value) (L : List Value), i ≤ C ∧ L.length = 16 ∧ a' = ⟨(.func (.yield l) #[] #[] :: Pt bp :: Pt b2 :: x3 :: x4 :: x5 :: x6 :: .pointer (some ⟨bp, 5, none⟩) :: .slice a5 C c5 :: I C :: I i :: L).toArray, mks Ds⟩ ∧ Hid (Ov own T0 W.heap.size b2 W1 J Ds (ovL 0 (P.threads.take i)) w')) ∧ slot10 C a' < slot10 C ⟨(.func (.yield l) #[] #[] :: Pt bp :: Pt b2 :: x3 :: x4 :: x5 :: x6 :: .pointer (some ⟨bp, 5, none⟩) :: .slice a5 C c5 :: I C :: I i :: L).toArray, mks Ds⟩) = Kf := ⟨_, rfl⟩
 rw [hKf]
 have HK : Hid (i < C → ∀ (Ds : List Nat) (x3 x4 x5 x6 : Value) (L : List Value) (w' : World), L.length = 16 → Ov own T0 W.heap.size b2 W1 J Ds (ovL 0 (P.threads.take (i + 1))) w' → Kf ⟨(.func (.yield l) #[] #[] :: Pt bp :: Pt b2 :: x3 :: x4 :: x5 :: x6 :: .pointer (some ⟨bp, 5, none⟩) :: .slice a5 C c5 :: I C :: I ((i + 1 : Nat) : Int) :: L).toArray, mks Ds⟩ w') := O (by
  intro hiC Ds' y3 y4 y5' y6 L' w' hL' hO
  rw [← hKf]
  refine ⟨⟨i + 1, Ds', y3, y4, y5', y6, L', by omega, hL', rfl, O hO⟩, ?_⟩
  have e1 : ∀ (v : Int) (Ls : List Value) (z3 z4 z5 z6 : Value) (D : List Deferred), slot10 C ⟨(.func (.yield l) #[] #[] :: Pt bp :: Pt b2 :: z3 :: z4 :: z5 :: z6 :: .pointer (some ⟨bp, 5, none⟩) :: .slice a5 C c5 :: I C :: I v :: Ls).toArray, D⟩ = C - v.toNat := fun v Ls z3 z4 z5 z6 D => rfl
  rw [e1, e1]
  omega)
 clear hKf
 rcases L with _ | ⟨z0, L⟩
 ·simp at hLn
 rcases L with _ | ⟨z1, L⟩
 ·simp at hLn
 rcases L with _ | ⟨z2, L⟩
 ·simp at hLn
 rcases L with _ | ⟨z3, L⟩
 ·simp at hLn
 rcases L with _ | ⟨z4, L⟩
 ·simp at hLn
 rcases L with _ | ⟨z5, L⟩
 ·simp at hLn
 rcases L with _ | ⟨z6, L⟩
 ·simp at hLn
 rcases L with _ | ⟨z7, L⟩
 ·simp at hLn
 rcases L with _ | ⟨z8, L⟩
 ·simp at hLn
 rcases L with _ | ⟨z9, L⟩
 ·simp at hLn
 rcases L with _ | ⟨z10, L⟩
 ·simp at hLn
 rcases L with _ | ⟨z11, L⟩
 ·simp at hLn
 rcases L with _ | ⟨z12, L⟩
 ·simp at hLn
 rcases L with _ | ⟨z13, L⟩
 ·simp at hLn
 rcases L with _ | ⟨z14, L⟩
 ·simp at hLn
 rcases L with _ | ⟨z15, L⟩
 ·simp at hLn
 rcases L with _ | ⟨u, L⟩
 rotate_left
 ·simp at hLn
 clear hLn
 by_cases a6 : i < C
 ·have h9' : (i : Int) < (C : Int) := by omega
  have h8 : (0 : Int) ≤ (i : Int) := by omega
  have f4 : Hid (wrap64 ((i : Int) + 1) = ((i + 1 : Nat) : Int)) := O (by
   have h1 := HC.out
   have := IntWalk.wrap64_in ((i : Int) + 1) (by omega)
   rw [this]
   omega)
  obtain ⟨x, hx⟩ : ∃ x, P.threads[i]? = some x := ⟨_, List.getElem?_eq_getElem (by rw [HQ.out]; exact a6)⟩
  obtain ⟨bx, ofx, csx, rfl, hTx, hrx, hLx⟩ := HL5.out i x hx
  obtain ⟨ba, bc, rfl, hrb, hsb⟩ := hLx
  have hkA : ∀ k, T0 k → A.heap[k]? = w0.heap[k]? := fun k hk => (E.out.i.kp k (.inl hk)).trans (HK1.out k hk)
  have HRw : Hid (A.rangeAt bx (ofx + i * 3) [.string x.name, .int .i64 (x.locals : Int), .slice ba x.body.length bc]) := O fun t v hv => World.cellF_cell ((World.cellF_of (hkA bx hTx) _).trans (hrx t v hv))
  have HXB := O (HB.out x (List.mem_of_getElem? hx))
  have HX := O (And.intro hrb (StsL.weak (ok' := fun _ => True) (fun _ _ => trivial) (StsL.keep (w' := A) (fun b o v hb hv => (World.cellF_of (hkA b hb) _).trans hv) hsb)))
  have hov : ovL 0 (P.threads.take (i + 1)) = ovL 0 (P.threads.take i) ++ (wkL 1 x.body).map (fun y => ((i : Int), y.2)) := by
   have hi' : i < P.threads.length := by rw [HQ.out]; exact a6
   rw [List.take_add_one, hx, ovL_app]
   congr 1
   simp only [Option.toList, ovL, List.length_take, Nat.min_eq_left (Nat.le_of_lt hi'), Nat.zero_add, List.append_nil]
  have hpf : ovL 0 (P.threads.take i) ++ (wkL 1 x.body).map (fun y => ((i : Int), y.2)) <+: ovL 0 P.threads := by
   rw [← hov]
   refine ⟨ovL (0 + (P.threads.take (i + 1)).length) (P.threads.drop (i + 1)), ?_⟩
   rw [← ovL_app, List.take_append_drop]
  have HOV := O (And.intro hov hpf)
  clear hrb hsb hkA hov hpf hrx hTx hx
  obtain ⟨NB, hNB⟩ := eX x.body.length
  have HNB := O hNB
  rw [hNB] at HRw
  clear hNB
  have hc3 : Hid (([.string x.name, .int .i64 (x.locals : Int), .slice ba NB bc] : List Value).length = 3 ∧ ∀ v ∈ ([.string x.name, .int .i64 (x.locals : Int), .slice ba NB bc] : List Value), v.oneCell' = true) := O ⟨rfl, fun v hv => by
   simp only [List.mem_cons, List.not_mem_nil, or_false] at hv
   rcases hv with rfl | rfl | rfl <;> rfl⟩
  obtain ⟨b3, hb3⟩ := eX A.heap.size
  go_wp2_with (first
   | ((with_reducible refine l1 14 71 ?_); refine wpList_load_mid rfl 71 (.tmp 13) rfl bx (ofx + i * 3) rfl [.string x.name, .int .i64 (x.locals : Int), .slice ba NB bc] d8 HRw.out e8 r8 info71 ?_)
   | ((with_reducible refine at1 3 (.alloc 3) ?_); refine wpList_alloc_blk f3 g3 q3 rfl rfl b3 hb3 ?_; intro A1 k1 b1 s1; have K1' := O k1; have B1' := O b1; clear k1 b1)
   | ((with_reducible refine at1 4 (.alloc 71) ?_); refine wpList_alloc_blk f8 g8 q8 rfl rfl (b3 + 1) s1 ?_; intro A2 k2 b2' s2; have K2 := O k2; have B2 := O b2'; clear k2 b2')
   | ((with_reducible refine s0 3 ?_); refine wpList_store_one info3' rfl (.tmp 3) (.tmp 12) rfl b3 0 3 (.int .i64 (i : Int)) _ rfl rfl rfl rfl (K1'.out.below B2.out) (by decide) ?_; intro A3 k3 c3; have K3 := O (And.intro k3 c3); clear k3 c3)
   | ((with_reducible refine s0 71 ?_); refine wpList_store_ch info71 rfl (.tmp 4) (.tmp 14) rfl (b3 + 1) [.string x.name, .int .i64 (x.locals : Int), .slice ba NB bc] _ rfl rfl (K3.out.2.blk (by omega) K2.out) rfl hc3.out ?_; intro A4 k4 c4; have K4 := O (And.intro k4 c4); have q2 : A4.cell? ⟨b3 + 1, 2, none⟩ = some (.slice ba NB bc) := (K4.out.1.cell 2).trans rfl; clear k4 c4)
   )
  have B4 : Hid (bL A A4) := O (K4.out.2.below (by omega) (K3.out.2.below (by omega) (B1'.out.trans (B2.out.mono B1'.out.size))))
  have K34 : Hid (Blk A4 b3 3 [.int .i64 (i : Int)] ∧ Blk A4 (b3 + 1) 71 [.string x.name, .int .i64 (x.locals : Int), .slice ba NB bc]) := O ⟨K4.out.2.blk (by omega) K3.out.1, K4.out.1⟩
  clear q2 K1' B1' K2 B2 K3 K4 s1 s2 HRw hc3
  have hcall := stmts_any (w := A4) (.int .i64 0) (.int .i64 0) (.int .i64 0) (.string ⟨#[]⟩) (.int .i64 0) ba bc x.body HX.out.1 HXB.out.2.2 HXB.out.1 (StsL.keep (fun b o v _ hv => below_cell B4.out b o v hv) HX.out.2)
  rw [HNB.out] at hcall
  refine hcall.mono ?_
  clear hcall
  rintro e A5 ⟨hb5, bt, ra, rc, rfl, hbt, hk5, hr5, ht5⟩
  have HSQ := stmts_seq (w := A4) hbt hk5 hr5 ht5 HXB.out.1 HXB.out.2.1
  have B5 : Hid (bL A A5) := O (B4.out.trans (hb5.mono B4.out.size))
  have K35 : Hid (Blk A5 b3 3 [.int .i64 (i : Int)] ∧ b3 < A5.heap.size ∧ A.heap.size = b3) := O ⟨K34.out.1.below hb5, (K34.out.1.below hb5).lt, hb3⟩
  have K25 : Hid (Blk A5 b2 173 [.func (.yield l) #[] #[]]) := O ((K1.out.of (E.out.i.kp b2 (.inr rfl))).below B5.out)
  have hT1 : ∀ k, A4.heap.size ≤ k ∧ k < A5.heap.size → k < A5.heap.size := fun k hk => hk.2
  have HA4 : Hid (A.heap.size ≤ A4.heap.size) := O B4.out.size
  clear hb5 hbt hk5 hr5 ht5 K34 B4 hb3
  go_wp2_with fail
  refine (wpIn_wide (n := 0)).1 ?_
  obtain ⟨out0, ho0⟩ := eX (ovL 0 (P.threads.take i))
  rw [ho0] at E HOV
  have E5 : Hid (Wi own (fun k => T0 k ∨ k = b2 ∨ k = b3 ∨ k ∈ Ds) W.heap.size A5 A5 ∧ J out0 A5) := O (by
   have hg := grown_below B5.out
   have ho := HH.out.2.1 _ _ _ none E.out.j hg (fun r e => by cases e)
   refine ⟨⟨fun k hk => ?_, fun k _ => rfl, Nat.le_trans E.out.i.sz B5.out.size⟩, HH.out.2.2.1 _ _ _ none E.out.j hg (fun r e => by cases e)⟩
   rcases hk with hk | hk | rfl | hk
   ·exact ⟨Nat.lt_of_lt_of_le (E.out.i.t k (.inl hk)).1 B5.out.size, fun h => (E.out.i.t k (.inl hk)).2 (ho k h)⟩
   ·exact ⟨Nat.lt_of_lt_of_le (E.out.i.t k (.inr hk)).1 B5.out.size, fun h => (E.out.i.t k (.inr hk)).2 (ho k h)⟩
   ·exact ⟨K35.out.2.1, fun h => by have := (HH.out.1 _ _ E.out.j _ (ho _ h)).1; have := K35.out.2.2; omega⟩
   ·obtain ⟨h1, h2⟩ := E.out.d k hk
    refine ⟨Nat.lt_of_lt_of_le (Array.getElem?_eq_some_iff.1 h2).1 B5.out.size, fun h => ?_⟩
    obtain ⟨ob, h3, h4⟩ := (HH.out.1 _ _ E.out.j _ (ho _ h)).2 h1
    rw [h2] at h3
    cases h3
    cases h4)
  obtain ⟨BL, hBL⟩ := eX A5.heap.size
  have HBL : Hid (W.heap.size ≤ BL ∧ A5.heap.size = BL) := O ⟨by rw [← hBL]; exact E5.out.1.sz, hBL⟩
  refine wpIn_rangeFunc_O rfl (enters_of Tryz.func126 (by kernel_rfl) rfl) HSQ (Below.refl _ _) rfl own (fun pre A => J (out0 ++ pre.map (fun y => ((i : Int), y.2))) A ∧ Wi own (fun k => T0 k ∨ k = b2 ∨ k = b3 ∨ k ∈ Ds) W.heap.size A5 A) (fun c _ A => c = .ret ∧ (∃ q, Jx q A) ∧ ∀ D ∈ Ds, A.heap[D]? = some (.deferred (some []))) ?_ ?_ ⟨by simpa using E5.out.2, E5.out.1⟩ ?_ hT1 ?_ ?_
   (fun v cs a' A => ∃ b6, (∃ q, J q A) ∧ Blk A b6 60 cs ∧ StL (fun c => W.heap.size ≤ c ∧ ¬ own A c) A cs v.2 ∧ a' = { tmps := #[.func (.yield l) #[] #[], Pt bp, Pt b2, Pt b3, Pt (b3 + 1), x5, Pt b6, .pointer (some ⟨bp, 5, none⟩), .slice (some ⟨bx, ofx, none⟩) C c5, I C, I i, .bool true, I i, .pointer (some ⟨bx, ofx + i * 3, none⟩), .agg #[.string x.name, .int .i64 (x.locals : Int), .slice ba NB bc], .pointer (some ⟨b3 + 1, 2, none⟩), .slice ba NB bc, .agg #[.int .i64 0, .int .i64 0, .int .i64 0, .string ⟨#[]⟩, .int .i64 0, .slice ba NB bc], .func (.func 126) #[] #[Pt bt], .int .i64 v.1, .agg cs.toArray, z10, z11, z12, z13, z14, z15], defers := [] }) ?_ ?_ ?_ ?_ ?_
  ·rintro s X Y row ⟨hj, hi⟩ hg hr
   have hr2 : ∀ r, row = some r → W.heap.size ≤ r ∧ ∃ o : Obj, X.heap[r]? = some o ∧ o.isCells = false := fun r e => ⟨by have := (hr r e).1; have := HBL.out; omega, (hr r e).2⟩
   exact ⟨HH.out.2.2.1 _ _ _ _ hj hg hr2, hi.grown (fun k hk => (E5.out.1.t k hk).1) hg hr (HH.out.2.1 _ _ _ _ hj hg hr2)⟩
  ·rintro c s X Y row ⟨rfl, ⟨q, hq⟩, hd⟩ hg hr
   have hr2 : ∀ r, row = some r → W.heap.size ≤ r ∧ ∃ o : Obj, X.heap[r]? = some o ∧ o.isCells = false := fun r e => ⟨by have := (hr r e).1; have := HBL.out; omega, (hr r e).2⟩
   refine ⟨rfl, ⟨q, HH.out.2.2.2 _ _ _ _ hq hg hr2⟩, fun D hD => (hg.block D (Array.getElem?_eq_some_iff.1 (hd D hD)).1 fun e => ?_).trans (hd D hD)⟩
   have h1 := (hr D e.symm).1
   have h2 := (E5.out.1.t D (.inr (.inr (.inr hD)))).1
   omega
  ·rintro k hk ⟨h1, h2⟩
   have ho := HH.out.2.1 _ _ _ none E.out.j (grown_below B5.out) (fun r e => by cases e)
   have h3 := (HH.out.1 _ _ E.out.j _ (ho k hk)).1
   have h4 := HA4.out
   omega
  ·rintro pre A9 ⟨hj, -⟩ k hk
   exact ⟨(HH.out.1 _ _ hj k hk).1, fun h => (HH.out.1 _ _ hj k hk).2 (by have := HBL.out; omega)⟩
  ·rintro pre X Y row ⟨hj, -⟩ hg hr
   exact HH.out.2.1 _ _ _ _ hj hg fun r e => ⟨by have := (hr r e).1; have := HBL.out; omega, (hr r e).2⟩
  ·rintro v cs a' _ X Y row ⟨b6, ⟨q, hq⟩, hk6, hst, ha⟩ hg hr
   have hr2 : ∀ r, row = some r → W.heap.size ≤ r ∧ ∃ o : Obj, X.heap[r]? = some o ∧ o.isCells = false := fun r e => ⟨by have := (hr r e).1; have := HBL.out; omega, (hr r e).2⟩
   have ho := HH.out.2.1 _ _ _ _ hq hg hr2
   exact ⟨b6, ⟨q, HH.out.2.2.1 _ _ _ _ hq hg hr2⟩, hk6.grown hg fun r e => (hr r e).2, (hst.keep fun b o u _ hu => cellF_grown hg (fun r e => (hr r e).2) b o u hu).weak fun c hc => ⟨hc.1, fun h => hc.2 (ho c h)⟩, ha⟩
  ·intro l' pre v cs A6 K hWs hI hst hK
   have HI := O hI
   have HST := O hst
   have HK2 := O hK
   have hcl := O hst.cells
   clear hI hst hK
   refine rL ?_
   generalize ha0 : (Act.mk _ _ : Act) = a0
   obtain rfl : a0 = ⟨#[.func (.yield l) #[] #[], Pt bp, Pt b2, Pt b3, Pt (b3 + 1), x5, x6, .pointer (some ⟨bp, 5, none⟩), .slice (some ⟨bx, ofx, none⟩) C c5, I C, I i, .bool true, I i, .pointer (some ⟨bx, ofx + i * 3, none⟩), .agg #[.string x.name, .int .i64 (x.locals : Int), .slice ba NB bc], .pointer (some ⟨b3 + 1, 2, none⟩), .slice ba NB bc, .agg #[.int .i64 0, .int .i64 0, .int .i64 0, .string ⟨#[]⟩, .int .i64 0, .slice ba NB bc], .func (.func 126) #[] #[Pt bt], .int .i64 v.1, .agg cs.toArray, z10, z11, z12, z13, z14, z15], []⟩ := by
    rw [← ha0]
    simp
   clear ha0
   obtain ⟨b6, hb6⟩ := eX A6.heap.size
   go_wp2_with (first
    | ((with_reducible refine at1 6 (.alloc 60) ?_); refine wpList_alloc_blk f6 g6 q6 rfl rfl b6 hb6 ?_; intro W4 k4 b4 s4; have K4 := O k4; have B4 := O b4; clear k4 b4 s4)
    | ((with_reducible refine s0 60 ?_); refine wpList_store_ch info64 rfl (.tmp 6) (.tmp 20) rfl b6 cs _ rfl rfl K4.out rfl hcl.out ?_; intro W5 k5 c5; have K5 := O (And.intro k5 c5); clear k5 c5)
   )
   have hb : bL A6 W5 := K5.out.2.below (by omega) B4.out
   have hg := grown_below hb
   have ho := HH.out.2.1 _ _ _ none HI.out.1 hg (fun r e => by cases e)
   exact HK2.out _ _ hb ⟨b6, ⟨_, HH.out.2.2.1 _ _ _ none HI.out.1 hg (fun r e => by cases e)⟩, K5.out.1, (HST.out.keep fun b o u _ hu => below_cell hb b o u hu).weak fun c hc => ⟨by have := HBL.out; omega, fun h => hc.2 (ho c h)⟩, rfl⟩
  ·rintro l' pre v cs a' A6 hl ⟨hj, hi6⟩ ⟨b6, -, hk6, hst, rfl⟩ hpre
   have HJ6 := O (And.intro hj hi6)
   have HK6 := O hk6
   have HST := O hst
   have hcl := hst.cells
   have c2 : A6.cell? ⟨b2, 0, none⟩ = some (.func (.yield l) #[] #[]) := by rw [(K25.out.of (hi6.kp b2 (.inr (.inl rfl)))).cell]; rfl
   have c3 : A6.cell? ⟨b3, 0, none⟩ = some (.int .i64 (i : Int)) := by rw [(K35.out.1.of (hi6.kp b3 (.inr (.inr (.inl rfl))))).cell]; rfl
   have hpx : out0 ++ (pre.map (fun y => ((i : Int), y.2))) ++ [((i : Int), v.2)] <+: ovL 0 P.threads := by
    obtain ⟨r, hr⟩ := hpre
    exact List.IsPrefix.trans ⟨r.map (fun y => ((i : Int), y.2)), by rw [← hr]; simp⟩ HOV.out.2
   obtain ⟨fn, tmps, asg, bd, hy, hR⟩ := HY.out _ ((i : Int), v.2) cs A6 hj hst hpx
   clear hj hi6 hk6 hst hpre
   refine wpIn_block ?_
   refine wpIn_seq_k fun K1 hK1 => ?_
   refine wpIn_region_lit ?_
   refine wpListIn_plain rfl fun K hK => oR ?_
   go_simp
   refine hK _ _ ?_
   clear hK K
   refine wpListIn_plain rfl fun K hK => oR ?_
   go_simp
   refine hK _ _ ?_
   clear hK K
   refine wpListIn_plain rfl fun K hK => oR ?_
   refine wp_load_mid 60 (.tmp 6) rfl b6 0 rfl cs d9 HK6.out.whole h9 g2 (by rw [hcl.1]; exact info64) ?_
   refine hK _ _ ?_
   clear hK K
   simp only [Act.put, List.setIfInBounds_toArray, List.set_cons_zero, List.set_cons_succ]
   refine wpListIn_plain rfl fun K hK => oY ?_
   go_simp
   refine ⟨rfl, ?_⟩
   refine RoundIn.mono (show RoundIn (Fence.wide.inRound l') 0 Tryz.prog l fn tmps asg bd A6 _ from hR) ?_
   clear hR hy c2 c3
   rintro e A7 (⟨rfl, hj7, hk7⟩ | ⟨rfl, hjx, hk7⟩)
   ·refine hK _ _ ?_
    clear hK K
    refine wpListIn_plain rfl fun K hK => oR ?_
    go_simp
    refine hK _ _ ?_
    clear hK K
    refine wpListIn_nil ?_
    refine hK1 _ _ ?_
    refine wpIn_cond_false rfl ?_
    refine wpIn_skip ?_
    show KeepsFrom A5.heap.size A6 A7 ∧ Ko own A6 A7 ∧ (J (out0 ++ (pre ++ [v]).map (fun y => ((i : Int), y.2))) A7 ∧ Wi own (fun k => T0 k ∨ k = b2 ∨ k = b3 ∨ k ∈ Ds) W.heap.size A5 A7)
    refine ⟨hk7.kk.keeps (by have := HBL.out; omega) fun k hk => HH.out.1 _ _ HJ6.out.1 k hk, hk7, ?_, HJ6.out.2.ko hk7⟩
    rw [List.map_append, ← List.append_assoc]
    exact hj7
   ·refine hK _ _ ?_
    clear hK K
    refine wpListIn_plain rfl fun K hK => oR ?_
    go_simp
    refine hK _ _ ?_
    clear hK K
    refine wpListIn_nil ?_
    refine hK1 _ _ ?_
    refine wpIn_cond_true rfl ?_
    refine wpIn_ret ?_
    show KeepsFrom A5.heap.size A6 A7 ∧ Kk own A6 A7 ∧ (Code.ret = .ret ∧ (∃ q, Jx q A7) ∧ ∀ D ∈ Ds, A7.heap[D]? = some (.deferred (some [])))
    refine ⟨hk7.keeps (by have := HBL.out; omega) fun k hk => HH.out.1 _ _ HJ6.out.1 k hk, hk7, rfl, ⟨_, hjx⟩, fun D hD => ?_⟩
    have h1 := HJ6.out.2.t D (.inr (.inr (.inr hD)))
    have h2 := E.out.d D hD
    exact (hk7.keep D h1.1 h1.2).trans ((HJ6.out.2.kp D (.inr (.inr (.inr hD)))).trans ((B5.out.block D (Array.getElem?_eq_some_iff.1 h2.2).1).trans h2.2))
  ·rintro D W9 hD ⟨hj, hi9⟩ hK9
   have HO : Hid (Ov own T0 W.heap.size b2 W1 J (D :: Ds) (ovL 0 (P.threads.take (i + 1))) W9) := O (by
    have hds : ∀ D2 ∈ Ds, D2 < A.heap.size := fun D2 h => (Array.getElem?_eq_some_iff.1 (E.out.d D2 h).2).1
    refine ⟨by rw [HOV.out.1]; exact hj, ⟨fun k hk => ?_, fun k hk => ?_, hi9.sz⟩, List.nodup_cons.2 ⟨fun h => ?_, E.out.n⟩, fun D2 h => ?_⟩
    ·exact hi9.t k (hk.imp id fun h => .inl h)
    ·have h1 := E.out.i.t k hk
     exact (hi9.kp k (hk.imp id fun h => .inl h)).trans ((B5.out.block k h1.1).trans (E.out.i.kp k hk))
    ·have h1 := hds D h
     have h2 := B5.out.size
     omega
    ·rcases List.mem_cons.1 h with rfl | h
     ·exact ⟨by have := HBL.out; omega, hK9⟩
     ·exact ⟨(E.out.d D2 h).1, (hi9.kp D2 (.inr (.inr (.inr h)))).trans ((B5.out.block D2 (hds D2 h)).trans (E.out.d D2 h).2)⟩)
   clear hj hi9 hK9 hD HSQ hT1
   go_wp2_with fail
   rw [f4.out]
   exact HK.out a6 (D :: Ds) _ _ _ _ [_, _, _, _, _, _, _, _, _, _, _, _, _, _, _, _] W9 rfl HO.out
  ·rintro D c pre W9 hD ⟨rfl, ⟨q, hq⟩, hds⟩ hK9
   have HS9 : Hid ((∀ D2 ∈ D :: Ds, W9.heap[D2]? = some (.deferred (some []))) ∧ (D :: Ds).Nodup ∧ (∀ D2 ∈ D :: Ds, W.heap.size ≤ D2) ∧ Jx q W9) := O (by
    refine ⟨fun D2 h => ?_, List.nodup_cons.2 ⟨fun h => ?_, E.out.n⟩, fun D2 h => ?_, hq⟩
    ·rcases List.mem_cons.1 h with rfl | h
     ·exact hK9
     ·exact hds D2 h
    ·have h1 := (Array.getElem?_eq_some_iff.1 (E.out.d D h).2).1
     have h2 := B5.out.size
     omega
    ·rcases List.mem_cons.1 h with rfl | h
     ·have := HBL.out
      omega
     ·exact (E.out.d D2 h).1)
   clear hq hds hK9 hD HSQ hT1
   refine wpIn_wide.2 ?_
   go_wp2_with fail
   refine leave_mks (D :: Ds) W9 HS9.out.2.1 HS9.out.1 (X := fun A => Jx q A) HS9.out.2.2.2 (fun A2 D2 h2 hj hd => HH.out.2.2.2.putObj _ hj (HS9.out.2.2.1 D2 h2) hd rfl) fun W' hj => ⟨_, results_none rfl _ _ _, ⟨_, rfl⟩, .inr ⟨q, hj⟩⟩
 ·obtain rfl : i = C := by omega
  have i2 : ¬ (i : Int) < (i : Int) := by omega
  go_wp2_with fail
  refine leave_mks Ds A E.out.n (fun D hD => (E.out.d D hD).2) (X := fun A => J (ovL 0 P.threads) A) ?_ (fun A2 D hD hj hd => HH.out.2.2.1.putObj _ hj (E.out.d D hD).1 hd rfl) fun W' hj => ⟨_, results_none rfl _ _ _, ⟨_, rfl⟩, .inl hj⟩
  have := E.out.j
  rwa [List.take_of_length_le (by rw [HQ.out]; exact Nat.le_refl _)] at this
end Go.Proofs.YtgppcdfgdaggjaaGreatDoor
