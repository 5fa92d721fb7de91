/- Texts laid together. No condition but what each law says. -/
import Derived.Test.YtgppcdfgdaggjaaGreatDoorQ38
set_option maxRecDepth 100000
set_option maxHeartbeats 8000000
namespace Go.Proofs.YtgppcdfgdaggjaaGreatDoor
open Go.RowKit Go.Maps
theorem PgRL.bound {w : World} {P : Pg} {ps : List Value} (h : PgRL (fun _ => True) w P ps) : PgRL (fun c => c < w.heap.size) w P ps := by
 obtain ⟨v0, v1, v4, v5, n0, n1, n2, n3, n4, he, hl⟩ := h
 have key : ∀ {α : Type} {E : El α} {v : Value} {l : List α}, 0 < E.sz → Ro E (fun _ => True) w v l → Ro E (fun c => c < w.heap.size) w v l := fun {α E v l} hz h => by
  obtain ⟨a, cap, rfl, D, hl⟩ := h
  refine ⟨a, cap, rfl, D, fun j x H => ?_⟩
  obtain ⟨b, g, cs, A, -, C, F⟩ := hl j x H
  exact ⟨b, g, cs, A, World.block_lt_of_cellF w (C 0 _ (List.getElem?_eq_getElem (by rw [(E.cells F).1]; exact hz))), C, E.weak (fun c hc => hc.2) (E.bound F)⟩
 exact ⟨v0, v1, v4, v5, n0, n1, n2, n3, n4, he, key (by decide) hl.vars, key (by decide) hl.arrays, key (by decide) hl.chans, key (by decide) hl.threads, key (by decide) hl.nv, key (by decide) hl.na, key (by decide) hl.nm, key (by decide) hl.nc, key (by decide) hl.nh⟩
theorem PgRL.kept {ok : Nat → Prop} {w w' : World} {P : Pg} {ps : List Value} (h : PgRL ok w P ps) (g : ∀ (b o : Nat) (u : Value), ok b → w.cellF ⟨b, o, none⟩ = some u → w'.cellF ⟨b, o, none⟩ = some u) : PgRL ok w' P ps := by
 obtain ⟨v0, v1, v4, v5, n0, n1, n2, n3, n4, he, hl⟩ := h
 exact ⟨v0, v1, v4, v5, n0, n1, n2, n3, n4, he, hl.keep g⟩
theorem PgRL.weak' {ok ok' : Nat → Prop} {w : World} {P : Pg} {ps : List Value} (h : PgRL ok w P ps) (g : ∀ b, ok b → ok' b) : PgRL ok' w P ps := by
 obtain ⟨v0, v1, v4, v5, n0, n1, n2, n3, n4, he, hl⟩ := h
 exact ⟨v0, v1, v4, v5, n0, n1, n2, n3, n4, he, hl.weak g⟩
/-- All statements of a program. -/
def allS (P : Pg) : List St := (ovL 0 P.threads).map Prod.snd
theorem pstmts_any {w : World} {P : Pg} {ps : List Value} (hP : PgRL (fun _ => True) w P ps) (hB : ∀ x ∈ P.threads, St.szs x.body ∧ St.cns x.body ≤ 90000 ∧ x.body.length ≤ 10000000) (hL : (allS P).length ≤ 10000000) :
  Calls Tryz.prog 17 #[.agg ps.toArray] w fun e w' => bL w w' ∧ ∃ a cap, e = .returned (.slice a (allS P).length cap) ∧ Roomy (allS P).length cap ∧ StsL (w.heap.size ≤ ·) w' a 0 (allS P) := by
 obtain ⟨i4, z4, f4, g4, h5⟩ := zero44
 obtain ⟨d9, h9, g2⟩ := under60
 obtain ⟨d3, e3, r3⟩ := under30
 obtain ⟨i6, z6, f6, g6, h6⟩ := zero60
 have c9 : Hid (Tryz.prog.underlying 44 = some (.slice 60)) := O (by kernel_rfl)
 obtain ⟨i0, z0, M, a0, V7, Z, a4⟩ := info_el infoSt
 have h4 : Tryz.prog.follows .mixedOrders = true := by kernel_rfl
 have HP := O hP.bound
 have hpc := hP.cells
 have HB := O hB
 have HLN := O fun _ : True => hL
 clear hP hB hL
 refine callsIn_wide (n := 0) |>.1 ?_
 refine callsIn_of_wp_marks Tryz.func17 rfl trivial ?_ rfl
 simp only [Tryz.ntmps17, List.size_toArray, List.length_cons, List.length_nil, Nat.reduceAdd, Nat.reduceSub, Array.replicate_succ, Array.replicate_zero, List.push_toArray, List.append_toArray, List.nil_append, List.cons_append]
 refine wpIn_wide.2 ?_
 refine wk fun KK U => ?_
 go_wp2_with (first
  | ((with_reducible refine at1 1 (.box 30 _) ?_); refine wpList_box_blk rfl (.tmp 0) rfl ps rfl w.heap.size rfl ?_; intro W1 k1 b1 s1; have K1 := O k1; have B1 := O b1; clear k1 b1)
 )
 refine U.out _ _ ?_
 clear U KK
 obtain ⟨b, hb⟩ := eX W1.heap.size
 refine wk fun KK U => ?_
 go_wp2_with (first
  | (with_reducible refine at1 3 (.alloc 44) ?_; refine wpList_alloc_blk f4 g4 h5 rfl rfl b hb ?_; intro W2 k2 b2 s2; have K2 := O k2; have B2 := O b2; clear k2 b2)
 )
 refine U.out _ _ ?_
 clear U KK
 have HBB : Hid (w.heap.size + 1 = b) := O (by omega)
 have E2 : Hid (bL w W2 ∧ Blk W2 w.heap.size 30 ps) := O ⟨B1.out.trans (B2.out.mono B1.out.size), K1.out.below B2.out⟩
 clear K1 B1 B2 s1 hb
 refine wk fun KK U => ?_
 refine wk fun KL U2 => ?_
 have hpl := hpc.1
 go_wp2_with (first
  | ((with_reducible refine l1 6 30 ?_); refine wpList_load_blk e3 r3 info30 rfl (.tmp 1) rfl w.heap.size ps rfl (O E2.out.2) hpl ?_)
 )
 refine (over_any ps W2).mono ?_
 rintro e W3 ⟨hb3, bp, rfl, hbp, hkp⟩
 have HSQ := over_seq (w0 := W3) (bp := bp) (ps := ps) (P := P) (T0 := fun k => k < w.heap.size ∨ k = bp) (.inr rfl) hkp (PgRL.weak' (HP.out.kept fun b o u hb hu => by
   have h1 := E2.out.1.trans (hb3.mono E2.out.1.size)
   exact below_cell h1 b o u hu) fun c hc => .inl hc) (fun k hk => by
   have h1 := E2.out.1.size
   have h2 := hb3.size
   rcases hk with hk | rfl
   ·omega
   ·exact hkp.lt) HB.out
 have E3 : Hid (bL W2 W3) := O hb3
 have HBP : Hid (b < bp ∧ bp < W3.heap.size) := O ⟨by have := K2.out.lt; omega, hkp.lt⟩
 clear hb3 hbp hkp
 go_wp2_with fail
 refine U2.out _ _ ?_
 clear U2 KL
 go_wp2_with fail
 refine (wpIn_wide (n := 0)).1 ?_
 obtain ⟨B0, hB0⟩ := eX W3.heap.size
 have hb0 : Hid (b < B0) := O (by have := HBP.out; omega)
 have hX : Hid (Bxl w b [] W3) := O ⟨⟨_, K2.out.below E3.out, Grow.nil _ _ _⟩, E2.out.1.trans (E3.out.mono E2.out.1.size), by have := HBB.out; omega⟩
 have hwB : w.heap.size ≤ B0 := by have := hb0.out; have := HBB.out; omega
 refine wpIn_rangeFunc_O rfl (enters_of Tryz.func86 (by kernel_rfl) rfl) HSQ (Below.refl _ _) rfl (oB b) (fun pre W => Bxl w b (pre.map Prod.snd) W) (fun _ _ _ => False) (by rw [hB0]; exact Bxl.from w b (List.map Prod.snd) B0 hwB) (fun _ _ _ _ _ h => h.elim) hX.out ?_ (fun k hk => by
   have h1 := HBP.out
   have h2 := HBB.out
   rcases hk with hk | rfl <;> omega) (fun pre A h k hk => ⟨h.lt k hk, fun _ => h.lt2 k hk⟩) (Bxl.ab w _ (List.map Prod.snd) _)
  (fun x cs a' W => ∃ b5, Lp b B0 b5 x cs W ∧ a' = { tmps := #[.agg ps.toArray, Pt w.heap.size, .slice none 0 0, Pt b, undef, Pt b5, .agg ps.toArray, .func (.func 86) #[] #[Pt bp], .int .i64 x.1, .agg cs.toArray, undef, undef, undef, undef, undef, undef, undef], defers := [] }) ?_ ?_ ?_ ?_ ?_
 ·rintro k hk hT
  rw [oB_iff (K2.out.below E3.out) (Grow.nil elSt _ _)] at hk
  have h1 := HBP.out
  have h2 := HBB.out
  rcases hk with rfl | hk
  ·rcases hT with h | h <;> omega
  ·cases hk
 ·rintro x cs a' _ A C2 row ⟨b5, h1, h2⟩ hg hr
  exact ⟨b5, Lp.from b B0 _ b5 x cs () A C2 row h1 hg hr, h2⟩
 ·intro l pre x cs W K hWs hBx hst hK
  have HBx := O hBx
  have HST := O hst
  have HK := O hK
  have hcl := O hst.cells
  clear hBx hst hK
  refine rL ?_
  generalize ha0 : (Act.mk _ _ : Act) = a0'
  obtain rfl : a0' = ⟨#[.agg ps.toArray, Pt w.heap.size, .slice none 0 0, Pt b, undef, undef, .agg ps.toArray, .func (.func 86) #[] #[Pt bp], .int .i64 x.1, .agg cs.toArray, undef, undef, undef, undef, undef, undef, undef], []⟩ := by
   rw [← ha0]
   simp
  clear ha0
  obtain ⟨b5, hb5⟩ := eX W.heap.size
  have h05 : Hid (B0 ≤ b5) := O (by omega)
  go_wp2_with (first
   | ((with_reducible refine at1 5 (.alloc 60) ?_); refine wpList_alloc_blk f6 g6 h6 rfl rfl b5 hb5 ?_; intro W4 k4 b4 s4; have K4 := O k4; have B4 := O b4; clear k4 b4 s4)
   | ((with_reducible refine s0 60 ?_); refine wpList_store_ch info64 rfl (.tmp 5) (.tmp 9) rfl b5 cs _ rfl rfl K4.out rfl hcl.out ?_; intro W5 k5 c5; have K5 := O (And.intro k5 c5); clear k5 c5)
  )
  rw [hB0] at HST
  have hlp := Lp.new (B0 := B0) HBx.out hb5 h05.out HST.out K4.out B4.out K5.out.1 K5.out.2
  exact HK.out _ _ hlp.1 ⟨b5, hlp.2, rfl⟩
 ·rintro l pre x cs a' W hl hBx ⟨b5, hLp, rfl⟩ hpre
  have HB := O hBx
  have HP := O hLp
  have hlen : Hid (True → (pre.map Prod.snd).length ≤ 10000000) := O fun _ => by
   have h1 := ((List.prefix_append pre [x]).trans hpre).length_le
   have h2 := HLN.out trivial
   unfold allS at h2
   simp only [List.length_map] at h2 ⊢
   omega
  rw [hB0]
  clear hBx hLp hpre hl
  refine wpIn_block ?_
  have HT2 : Hid ((pre ++ [x]).map Prod.snd = pre.map Prod.snd ++ [x.2]) := O (by simp)
  obtain ⟨acc, hacc⟩ := eX (pre.map Prod.snd)
  rw [hacc] at HB hlen HT2
  clear hacc
  obtain ⟨v, hv, hG⟩ := HB.out.x
  obtain ⟨ga, gc, rfl, hroom⟩ := hG.form
  clear hroom
  obtain ⟨V, hV⟩ := eX W.drew
  have bV : Hid (bL W V) := O (by rw [← hV]; exact (Below.refl _ _).drew)
  have kV : Hid (Blk V b 44 [.slice ga acc.length gc]) := O (hv.below bV.out)
  have gV : Hid (Grow elSt (b + 1) V (.slice ga acc.length gc) acc) := O (hG.below bV.out)
  have pV : Hid (Lp b B0 b5 x cs V) := O (by rw [← hV]; exact HP.out.drew)
  have hl0 := O HP.out.st.cells
  have hno : Hid (b5 ≠ b ∧ (Value.slice ga acc.length gc).ownBlock ≠ some b5) := O (by
   have h1 := HP.out.no
   rw [oB_iff hv hG] at h1
   exact ⟨fun e => h1 (.inl e), fun e => h1 (.inr e)⟩)
  have hoV : Hid (∀ k, ¬ oB b V k → k ≠ b ∧ (Value.slice ga acc.length gc).ownBlock ≠ some k) := O fun k h1 => by
   rw [oB_iff kV.out gV.out] at h1
   exact ⟨fun e => h1 (.inl e), fun e => h1 (.inr e)⟩
  have hv0 := O hv
  have HS : Hid (V.cell? ⟨b, 0, none⟩ = some (.slice ga acc.length gc) ∧ V.rangeAt b5 0 cs) := O ⟨by rw [kV.out.cell]; rfl, pV.out.k.whole⟩
  obtain ⟨N, hN⟩ := eX acc.length
  have HN := O hN
  have i1 : (0 : Int) ≤ (N : Int) := by omega
  have i2 : (N : Int) < ((N + 1 : Nat) : Int) := by omega
  have i3 : (N : Int) < (N : Int) + 1 := by omega
  simp only [hN] at HS
  clear hv hG hN
  refine wpIn_region_round [4, 5, 6, 7] (fun W => W.cell? ⟨b, 0, none⟩ = some (.slice ga N gc) ∧ W.rangeAt b5 0 cs) h4 (by kernel_rfl) (fun h => by obtain ⟨_, _, h⟩ := h; exact h) ?_
  rw [hV]
  clear hV
  refine tKf (fun W => W.cell? ⟨b, 0, none⟩ = some (.slice ga N gc)) 0 (fun W h => h.1) ?_
  refine tl 1 11 HS 60 5 b5 0 cs d9 (fun W h => h.2) h9 g2 (by rw [hl0.out.1]; exact info64) ?_
  refine tK1 2 ?_
  refine nm ?_
  refine oD 3 fun K F => ?_
  refine wp_build1 (.const (.agg zStC.toArray)) rfl c9.out M a0 V7 Z (by decide) (by decide) _ zStC rfl rfl rfl ?_
  intro Wb kb bb sb
  have bW : Hid (bL V Wb) := O bb
  have gW : Hid (Grow elSt (b + 1) Wb (.slice ga acc.length gc) acc) := O (gV.out.below bb)
  have pW : Hid (Blk Wb b5 60 cs ∧ Blk Wb b 44 [.slice ga acc.length gc]) := O ⟨pV.out.k.below bb, kV.out.below bb⟩
  have tW : Hid (StL (fun c => ((B0 ≤ c ∧ (c ≠ b ∧ (Value.slice ga acc.length gc).ownBlock ≠ some c)) ∧ c ≠ b5) ∧ c < Wb.heap.size) Wb cs x.2) := O (((pV.out.st.weak fun c hc => ⟨⟨hc.1.1, hoV.out c hc.1.2⟩, hc.2⟩).keep fun b o v _ hv => below_cell bb b o v hv).bound)
  apply F _ _ (fun _ => ⟨by rw [pW.out.2.cell, ← HN.out]; rfl, pW.out.1.whole⟩)
  clear F K bb sb
  refine oD 4 fun K F => ?_
  refine wp_append_at elSt (.tmp 10) (.tmp 13) 44 rfl i0 z0 c9.out M a0 V7 Z (by decide) a4 (b + 1) Wb (.slice ga acc.length gc) acc (by rw [HN.out]; rfl) gW.out zStC (mkSt 0 (0, 0) noB noB zEx zEx [] []) zSt_L _ 60 kb rfl (hlen.out trivial) pW.out.2.lt ?_
  intro gb capb W9 hg hb hk9 ho9
  have E9 : Hid (Grow elSt (b + 1) W9 (.slice (some ⟨gb, 0, none⟩) (acc.length + 1) capb) (acc ++ [mkSt 0 (0, 0) noB noB zEx zEx [] []]) ∧ Below (b + 1) Wb W9 ∧ (∀ c, c < Wb.heap.size → (Value.slice ga acc.length gc).ownBlock ≠ some c → W9.heap[c]? = Wb.heap[c]?) ∧ ((Value.slice ga acc.length gc).ownBlock = some gb ∨ gb = Wb.heap.size)) := O ⟨hg, hb, hk9, ho9⟩
  have hgb5 : Hid (b5 ≠ gb ∧ b ≠ gb) := O (by
   have h1 := pW.out.1.lt
   have h2 := pW.out.2.lt
   have h3 := hno.out.2
   rcases ho9 with h | h
   ·exact ⟨fun e => h3 (by rw [e]; exact h), fun e => by have := (gW.out.olt h).1; omega⟩
   ·exact ⟨by omega, by omega⟩)
  have k9b : Hid (Blk W9 b 44 [.slice ga acc.length gc]) := O (pW.out.2.of (hb.block b (Nat.lt_succ_self _)))
  have t9 : Hid (StL (fun c => (b + 1 ≤ c ∧ c ≠ gb) ∧ c < W9.heap.size) W9 cs x.2) := O ((tW.out.keep fun c o v hc hv => by
   rw [← hv]
   exact World.cellF_of (hk9 c hc.2 hc.1.1.2.2) o).weak fun c hc => ⟨⟨by have := hc.1.1.1; have := hb0.out; omega, fun e => by
   rcases ho9 with h | h
   ·exact hc.1.1.2.2 (by rw [e]; exact h)
   ·have := hc.2
    omega⟩, Nat.lt_of_lt_of_le hc.2 hb.size⟩)
  apply F _ _ nofun
  clear F K kb hg hb hk9 ho9 gV pV kV
  refine nm ?_
  refine wpX_takeP 5 (some 15) (v := ?_) rfl rfl (by kernel_rfl) (fun _ _ _ h => h) (Or.inl ⟨by rfl, ?_⟩) ?_
  rotate_left
  ·intro N1 M1
   clear M1
   rw [HN.out]
   go_simp
   first | with_reducible rfl | rw [if_neg (by omega)]
  refine nm ?_
  have hth : Hid (W9.there gb (N * 25) 25) := O (by
   rw [← HN.out]
   exact E9.out.1.there acc.length (by simp))
  refine wpX_three [6, 7] (by kernel_rfl) ?_ (by decide)
  intro i hi
  simp only [List.mem_cons, List.not_mem_nil, or_false] at hi
  rcases hi with rfl | rfl
  ·refine ⟨_, rfl, rfl, fun K F => ?_⟩
   refine wp_store_mid 60 (.tmp 15) (.tmp 11) rfl gb (N * 25) cs.toArray rfl rfl (by simp only [List.size_toArray, hl0.out.1]; exact hth.out) (by rw [List.size_toArray, hl0.out.1]; exact info64) (all_oneCell_toArray hl0.out.2) ?_
   have gX := E9.out.1.setLast (y := x.2) t9.out
   rw [show acc.length * elSt.sz = N * 25 by rw [HN.out]; rfl] at gX
   obtain ⟨X, hX⟩ := eX (W9.setCells gb (N * 25) cs)
   rw [hX] at gX
   have cX : Ch gb W9 X := ⟨_, _, hX.symm⟩
   have EX := O (And.intro gX cX)
   rw [show cs.toArray.toList = cs from rfl, hX]
   apply F _ _ nofun
   clear F K gX cX hX
   refine oD 7 fun K F => ?_
   refine wp_store_one (by kernel_rfl) (.tmp 3) (.tmp 14) rfl b 0 44 (.slice (some ⟨gb, 0, none⟩) (acc.length + 1) capb) _ rfl rfl rfl rfl (EX.out.2.blk hgb5.out.2 k9b.out) (by simp) ?_
   intro X2 kX2 cX2
   have E10 : Hid (Bxl w b (acc ++ [x.2]) X2 ∧ Ko (oB b) W X2 ∧ KeepsFrom B0 W X2) := O (HB.out.push (B0 := B0) (X := Wb) hv0.out (bV.out.trans (bW.out.mono bV.out.size)) (by rw [cX2.size, EX.out.2.size]; exact E9.out.2.1.size) (E9.out.2.2.2.imp id fun h => by omega) (fun k hk hkb hko => by
     have h1 : k ≠ gb := by
      rcases E9.out.2.2.2 with h | h
      ·rintro rfl
       exact hko h
      ·omega
     exact (cX2.hpc hkb).trans ((EX.out.2.hpc h1).trans (E9.out.2.2.1 k hk hko))) ⟨cX2.kp.os.trans (EX.out.2.kp.os.trans E9.out.2.1.os), cX2.kp.tape.trans (EX.out.2.kp.tape.trans E9.out.2.1.tape), cX2.kp.output.trans (EX.out.2.kp.output.trans E9.out.2.1.output)⟩ kX2 (cX2.grow EX.out.1 (Nat.lt_succ_self _)))
   apply F _ _ nofun
   clear F K kX2 cX2 EX E9
   simp only [Act.put]
   refine dn ?_
   show KeepsFrom B0 W X2 ∧ Ko (oB b) W X2 ∧ Bxl w b ((pre ++ [x]).map Prod.snd) X2
   refine ⟨E10.out.2.2, E10.out.2.1, ?_⟩
   rw [HT2.out]
   exact E10.out.1
  ·refine ⟨_, rfl, rfl, fun K F => ?_⟩
   refine wp_store_one (by kernel_rfl) (.tmp 3) (.tmp 14) rfl b 0 44 (.slice (some ⟨gb, 0, none⟩) (acc.length + 1) capb) _ rfl rfl rfl rfl k9b.out (by simp) ?_
   intro X kX cX
   change K (Act.put _ none _) X
   have EX := O (And.intro kX (And.intro (cX.grow E9.out.1 (Nat.lt_succ_self _)) cX))
   have tX : Hid (StL (fun c => (b + 1 ≤ c ∧ c ≠ gb) ∧ c < X.heap.size) X cs x.2) := O ((t9.out.keep fun c o v hc hv => by
    rw [cX.cellF (by have := hc.1.1; omega)]
    exact hv).weak fun c hc => ⟨hc.1, by rw [cX.size]; exact hc.2⟩)
   have hthX : Hid (X.there gb (N * 25) 25) := O (by
    rw [← HN.out]
    exact EX.out.2.1.there acc.length (by simp))
   apply F _ _ nofun
   clear F K kX cX
   refine oD 6 fun K F => ?_
   refine wp_store_mid 60 (.tmp 15) (.tmp 11) rfl gb (N * 25) cs.toArray rfl rfl (by simp only [List.size_toArray, hl0.out.1]; exact hthX.out) (by rw [List.size_toArray, hl0.out.1]; exact info64) (all_oneCell_toArray hl0.out.2) ?_
   have gX := EX.out.2.1.setLast (y := x.2) tX.out
   rw [show acc.length * elSt.sz = N * 25 by rw [HN.out]; rfl] at gX
   obtain ⟨X2, hX2⟩ := eX (X.setCells gb (N * 25) cs)
   rw [hX2] at gX
   have cX2 : Ch gb X X2 := ⟨_, _, hX2.symm⟩
   rw [show cs.toArray.toList = cs from rfl, hX2]
   have E10 : Hid (Bxl w b (acc ++ [x.2]) X2 ∧ Ko (oB b) W X2 ∧ KeepsFrom B0 W X2) := O (HB.out.push (B0 := B0) (X := Wb) hv0.out (bV.out.trans (bW.out.mono bV.out.size)) (by rw [cX2.size, EX.out.2.2.size]; exact E9.out.2.1.size) (E9.out.2.2.2.imp id fun h => by omega) (fun k hk hkb hko => by
     have h1 : k ≠ gb := by
      rcases E9.out.2.2.2 with h | h
      ·rintro rfl
       exact hko h
      ·omega
     exact (cX2.hpc h1).trans ((EX.out.2.2.hpc hkb).trans (E9.out.2.2.1 k hk hko))) ⟨cX2.kp.os.trans (EX.out.2.2.kp.os.trans E9.out.2.1.os), cX2.kp.tape.trans (EX.out.2.2.kp.tape.trans E9.out.2.1.tape), cX2.kp.output.trans (EX.out.2.2.kp.output.trans E9.out.2.1.output)⟩ (cX2.blk hgb5.out.2 EX.out.1) gX)
   apply F _ _ nofun
   clear F K gX cX2 hX2 EX E9
   simp only [Act.put]
   refine dn ?_
   show KeepsFrom B0 W X2 ∧ Ko (oB b) W X2 ∧ Bxl w b ((pre ++ [x]).map Prod.snd) X2
   refine ⟨E10.out.2.2, E10.out.2.1, ?_⟩
   rw [HT2.out]
   exact E10.out.1
 ·intro D W hD hI hK
  have HI : Hid (Bxl w b (allS P) W) := O hI
  clear hI
  obtain ⟨v, hv, hG⟩ := HI.out.x
  obtain ⟨ra2, rc2, rfl, hrm⟩ := hG.form
  have HG := O (And.intro hrm hG)
  have hv0 : W.cell? ⟨b, 0, none⟩ = some (.slice ra2 (allS P).length rc2) := by rw [hv.cell]; rfl
  have HD := O (And.intro hD hK)
  clear hv hG hrm hD hK
  obtain ⟨C, hC⟩ := eX (allS P).length
  have HC := O hC
  rw [hC] at hv0
  go_wp2_with fail
  refine U.out _ _ ?_
  clear U KK
  go_wp2_with fail
  have hg := grownBy_putObj' W D (.deferred none)
  have hr : ∀ r, some D = some r → B0 ≤ r ∧ ∃ o : Obj, W.heap[r]? = some o ∧ o.isCells = false := fun r e => by
   cases e
   exact ⟨by have := HD.out.1; omega, _, HD.out.2, rfl⟩
  have hg2 := HG.out.2.grown hg fun r e => (hr r e).2
  refine ⟨by simp, .inl ⟨_, _, rfl, run_takeDeferred HD.out.2, ?_⟩⟩
  refine ⟨_, results_tmp rfl _ _ _, (HI.out.grown hg hwB hr).lo, ra2, rc2, ?_, HG.out.1, StsL.weak (fun c hc => by have := HBB.out; show w.heap.size ≤ c; omega) hg2.sts⟩
  rw [HC.out]
  rfl
 ·intro D c pre W _ h
  exact h.elim
end Go.Proofs.YtgppcdfgdaggjaaGreatDoor
set_option maxRecDepth 100000
set_option maxHeartbeats 8000000
namespace Go.Proofs.YtgppcdfgdaggjaaGreatDoor
open Go.RowKit Go.Maps
def St.sid : St → Int
 | .mk _ _ _ _ _ _ _ _ _ id _ _ _ => id
/-- The first with a number. -/
def thr (l : List Yv) (id : Int) : Int × Bool := match l.find? (fun y => decide (y.2.sid = id)) with
 | some y => (y.1, true)
 | none => (0, false)
theorem sid_at {ok : Nat → Prop} {w : World} {cs : List Value} {s : St} (h : StL ok w cs s) : cs[21]? = some (.int .i64 s.sid) := by
 obtain ⟨k, l, c, s, t, x, y, body, els, id, sl, ot, lo⟩ := s
 unfold StL at h
 obtain ⟨cx, cy, a, a', cap, cap', hcs, hX, hY, -⟩ := h
 have h2 : cs = stC k l c s t cx cy (.slice a body.length cap) (.slice a' els.length cap') id sl ot lo := hcs
 exact (stC_at h2 hX.cells.1 hY.cells.1).2.2.2.2.2.2.2.1
theorem zeroC4 : ∃ i z, Tryz.prog.info? 4 = some i ∧ i.zero = some z ∧ z.cells = ([.bool false] : List Value).toArray := infoZ (by kernel_rfl)
/-- The result's two boxes, the box of the number. -/
structure Tb (w : World) (b : Nat) (id n : Int) (q : Bool) (W : World) : Prop where
 i : Blk W (b + 1) 3 [.int .i64 id]
 n : Blk W (b + 2) 3 [.int .i64 n]
 q : Blk W (b + 3) 4 [.bool q]
 lo : Below w.heap.size w W
 le : w.heap.size ≤ b
def oT (b : Nat) (_ : World) (k : Nat) : Prop := k = b + 2 ∨ k = b + 3
theorem Tb.grown {w W W' : World} {b : Nat} {id n : Int} {q : Bool} {row : Option Nat} {B0 : Nat} (h : Tb w b id n q W) (g : W.grownBy W' row) (hB : w.heap.size ≤ B0) (hr : ∀ r, row = some r → B0 ≤ r ∧ ∃ o : Obj, W.heap[r]? = some o ∧ o.isCells = false) : Tb w b id n q W' :=
 ⟨h.i.grown g fun r e => (hr r e).2, h.n.grown g fun r e => (hr r e).2, h.q.grown g fun r e => (hr r e).2, ⟨g.os.trans h.lo.os, g.tape.trans h.lo.tape, g.output.trans h.lo.output, Nat.le_trans h.lo.size g.size, fun k hk => (g.block k (Nat.lt_of_lt_of_le hk h.lo.size) fun e => by
  have := (hr k e.symm).1
  omega).trans (h.lo.block k hk)⟩, h.le⟩
theorem thread_end {w W : World} {b : Nat} {id n : Int} {q : Bool} {tmps : Array Value} {D : Nat} {B0 : Nat} {R : Ending → World → Prop} (h : Tb w b id n q W) (hB : w.heap.size ≤ B0) (hD : B0 ≤ D) (hK : W.heap[D]? = some (.deferred (some []))) (h4 : tmps.getD 4 undef = Pt (b + 2)) (h5 : tmps.getD 5 undef = Pt (b + 3)) (hR : ∀ W', bL w W' → R (.returned (.tuple #[.int .i64 n, .bool q])) W') : LeavesInM Fence.wide 0 Tryz.prog Tryz.f21 tmps R [{ target := .collected D, args := #[] }] .returning W := by
 refine ⟨by simp, .inl ⟨_, _, rfl, run_takeDeferred hK, ?_⟩⟩
 have h2 := h.grown (grownBy_putObj' W D (.deferred none)) hB (fun r e => by cases e; exact ⟨hD, _, hK, rfl⟩)
 have c4 : (W.putObj D (.deferred none)).cell? ⟨b + 2, 0, none⟩ = some (.int .i64 n) := by rw [h2.n.cell]; rfl
 have c5 : (W.putObj D (.deferred none)).cell? ⟨b + 3, 0, none⟩ = some (.bool q) := by rw [h2.q.cell]; rfl
 have e4 : tmps[4]?.getD undef = Pt (b + 2) := by rw [← h4]; simp
 have e5 : tmps[5]?.getD undef = Pt (b + 3) := by rw [← h5]; simp
 refine ⟨.tuple #[.int .i64 n, .bool q], ?_, hR _ h2.lo⟩
 simp [results, Tryz.f21, go_sem, e4, e5, c4, c5]
theorem pthread_any {w : World} {P : Pg} {ps : List Value} (id : Int) (hP : PgRL (fun _ => True) w P ps) (hB : ∀ x ∈ P.threads, St.szs x.body ∧ St.cns x.body ≤ 90000 ∧ x.body.length ≤ 10000000) :
  Calls Tryz.prog 21 #[.agg ps.toArray, .int .i64 id] w fun e w' => bL w w' ∧ e = .returned (.tuple #[.int .i64 (thr (ovL 0 P.threads) id).1, .bool (thr (ovL 0 P.threads) id).2]) := by
 obtain ⟨d3, e3, r3⟩ := under30
 obtain ⟨i6, z6, f6, g6, h6⟩ := zero60
 obtain ⟨i3, z3, f3, g3, q3⟩ := zeroC3
 obtain ⟨i4, z4, f4, g4, q4⟩ := zeroC4
 have HP := O hP.bound
 have hpc := hP.cells
 have HB := O hB
 clear hP hB
 refine callsIn_wide (n := 0) |>.1 ?_
 refine callsIn_of_wp_marks Tryz.func21 rfl trivial ?_ rfl
 simp only [Tryz.ntmps21, List.size_toArray, List.length_cons, List.length_nil, Nat.reduceAdd, Nat.reduceSub, Array.replicate_succ, Array.replicate_zero, List.push_toArray, List.append_toArray, List.nil_append, List.cons_append]
 refine wpIn_wide.2 ?_
 obtain ⟨b, hb⟩ := eX w.heap.size
 refine wk fun KK U => ?_
 go_wp2_with (first
  | ((with_reducible refine at1 2 (.box 30 _) ?_); refine wpList_box_blk rfl (.tmp 0) rfl ps rfl b hb ?_; intro W1 k1 b1 s1; have K1 := O k1; have B1 := O b1; clear k1 b1)
  | ((with_reducible refine at1 3 (.box 3 _) ?_); refine wpList_box_blk rfl (.tmp 1) rfl [.int .i64 id] rfl (b + 1) s1 ?_; intro W2 k2 b2 s2; have K2 := O k2; have B2 := O b2; clear k2 b2)
  | ((with_reducible refine at1 4 (.alloc 3) ?_); refine wpList_alloc_blk f3 g3 q3 rfl rfl (b + 2) s2 ?_; intro W3 k3 b3 s3; have K3 := O k3; have B3 := O b3; clear k3 b3)
  | ((with_reducible refine at1 5 (.alloc 4) ?_); refine wpList_alloc_blk f4 g4 q4 rfl rfl (b + 3) s3 ?_; intro W4 k4 b4 s4; have K4 := O k4; have B4 := O b4; clear k4 b4)
 )
 refine U.out _ _ ?_
 clear U KK
 have hb12 := B1.out.trans (B2.out.mono B1.out.size)
 have hb13 := hb12.trans (B3.out.mono hb12.size)
 have E4 : Hid (Tb w b id 0 false W4 ∧ Blk W4 b 30 ps ∧ W4.heap.size = b + 4) := O ⟨⟨(K2.out.below B3.out).below B4.out, K3.out.below B4.out, K4.out, hb13.trans (B4.out.mono hb13.size), Nat.le_of_eq hb⟩, ((K1.out.below B2.out).below B3.out).below B4.out, s4⟩
 have HBB := O hb
 clear K1 B1 K2 B2 K3 B3 K4 B4 hb12 hb13 s1 s2 s3 s4 hb
 refine wk fun KK U => ?_
 refine wk fun KL U2 => ?_
 have hpl := hpc.1
 go_wp2_with (first
  | ((with_reducible refine l1 8 30 ?_); refine wpList_load_blk e3 r3 info30 rfl (.tmp 2) rfl b ps rfl (O E4.out.2.1) hpl ?_)
 )
 refine (over_any ps W4).mono ?_
 rintro e W5 ⟨hb5, bp, rfl, hbp, hkp⟩
 have HSQ := over_seq (w0 := W5) (bp := bp) (ps := ps) (P := P) (T0 := fun k => k < w.heap.size ∨ k = bp) (.inr rfl) hkp (PgRL.weak' (HP.out.kept fun b o u hb hu => by
   have h1 := E4.out.1.lo.trans (hb5.mono E4.out.1.lo.size)
   exact below_cell h1 b o u hu) fun c hc => .inl hc) (fun k hk => by
   have h1 := E4.out.1.lo.size
   have h2 := hb5.size
   rcases hk with hk | rfl
   ·omega
   ·exact hkp.lt) HB.out
 have E5 : Hid (Tb w b id 0 false W5) := O (E4.out.1.grown (B0 := w.heap.size) (grown_below hb5) (Nat.le_refl _) (fun r e => by cases e))
 have HBP : Hid (b + 3 < bp ∧ bp < W5.heap.size) := O ⟨by have := E4.out.2.2; omega, hkp.lt⟩
 clear hb5 hbp hkp E4
 go_wp2_with fail
 refine U2.out _ _ ?_
 clear U2 KL
 go_wp2_with fail
 refine (wpIn_wide (n := 0)).1 ?_
 obtain ⟨B0, hB0⟩ := eX W5.heap.size
 have hwB : Hid (w.heap.size ≤ B0 ∧ b + 4 ≤ B0) := O (by have := HBP.out; have := HBB.out; omega)
 refine wpIn_rangeFunc_O rfl (enters_of Tryz.func86 (by kernel_rfl) rfl) HSQ (Below.refl _ _) rfl (oT b) (fun pre W => (∀ y ∈ pre, y.2.sid ≠ id) ∧ Tb w b id 0 false W) (fun c pre W => c = .ret ∧ pre <+: ovL 0 P.threads ∧ ∃ p0 y, pre = p0 ++ [y] ∧ (∀ z ∈ p0, z.2.sid ≠ id) ∧ y.2.sid = id ∧ Tb w b id y.1 true W) ?_ ?_ ⟨fun y hy => (by cases hy), E5.out⟩ ?_ ?_ ?_ ?_
  (fun x cs a' W => ∃ b7, Blk W b7 60 cs ∧ StL (fun _ => True) W cs x.2 ∧ a' = { tmps := #[.agg ps.toArray, .int .i64 id, Pt b, Pt (b + 1), Pt (b + 2), Pt (b + 3), .int .i64 x.1, Pt b7, .agg ps.toArray, .func (.func 86) #[] #[Pt bp], .int .i64 x.1, .agg cs.toArray, undef, undef, undef, undef, undef], defers := [] }) ?_ ?_ ?_ ?_ ?_
 ·rintro s X Y row ⟨h1, h2⟩ hg hr
  exact ⟨h1, h2.grown hg hwB.out.1 (by rw [← hB0]; exact hr)⟩
 ·rintro c s X Y row ⟨rfl, h1, p0, y, h2, h3, h4, h5⟩ hg hr
  exact ⟨rfl, h1, p0, y, h2, h3, h4, h5.grown hg hwB.out.1 (by rw [← hB0]; exact hr)⟩
 ·rintro k hk hT
  have h1 := HBP.out
  have h2 := HBB.out
  rcases hk with rfl | rfl <;> rcases hT with h | h <;> omega
 ·rintro k hk
  have h1 := HBP.out
  have h2 := HBB.out
  rcases hk with hk | rfl <;> omega
 ·rintro pre A ⟨-, h⟩ k (rfl | rfl)
  ·exact ⟨h.n.lt, fun _ => ⟨_, h.n, rfl⟩⟩
  ·exact ⟨h.q.lt, fun _ => ⟨_, h.q, rfl⟩⟩
 ·exact fun pre A C row _ _ _ k hk => hk
 ·rintro x cs a' _ X Y row ⟨b7, h1, h2, h3⟩ hg hr
  exact ⟨b7, h1.grown hg fun r e => (hr r e).2, h2.keep fun b o u _ hu => cellF_grown hg (fun r e => (hr r e).2) b o u hu, h3⟩
 ·intro l pre x cs W K hWs hI hst hK
  have HST := O hst
  have HK := O hK
  have hcl := O hst.cells
  clear hI hst hK
  refine wpIn_seq_k fun K1 hK1 => ?_
  refine rL ?_
  go_wp2_with fail
  refine rL ?_
  obtain ⟨b7, hb7⟩ := eX W.heap.size
  go_wp2_with (first
   | ((with_reducible refine at1 7 (.alloc 60) ?_); refine wpList_alloc_blk f6 g6 h6 rfl rfl b7 hb7 ?_; intro W8 k8 b8 s8; have K8 := O k8; have B8 := O b8; clear k8 b8 s8)
   | ((with_reducible refine s0 60 ?_); refine wpList_store_ch info64 rfl (.tmp 7) (.tmp 11) rfl b7 cs _ rfl rfl K8.out rfl hcl.out ?_; intro W9 k9 c9; have K9 := O (And.intro k9 c9); clear k9 c9)
  )
  have hb9 : bL W W9 := K9.out.2.below (by omega) B8.out
  exact HK.out _ _ hb9 ⟨b7, K9.out.1, (HST.out.keep fun b o u _ hu => below_cell hb9 b o u hu).weak fun _ _ => trivial, rfl⟩
 ·rintro l pre x cs a' W hl ⟨hpr, hTb⟩ ⟨b7, hk7, hst, rfl⟩ hpre
  have HT := O hTb
  have HPR := O (And.intro hpr hpre)
  have c21 : W.cell? ⟨b7, 21, none⟩ = some (.int .i64 x.2.sid) := (hk7.cell 21).trans (sid_at hst)
  have c3 : W.cell? ⟨b + 1, 0, none⟩ = some (.int .i64 id) := by rw [hTb.i.cell]; rfl
  clear hTb hpr hpre hk7 hst hl
  refine wpIn_block ?_
  refine wpIn_seq_k fun K1 hK1 => ?_
  refine rL ?_
  by_cases hx : x.2.sid = id
  ·rw [hx] at c21
   have HX := O hx
   clear hx
   go_wp2_with fail
   clear c21 c3
   refine wpIn_cond_true rfl ?_
   refine wpIn_seq_k fun K1 hK1 => ?_
   refine rL ?_
   go_wp2_with (first
    | ((with_reducible refine s0 3 ?_); refine wpList_store_one info3' rfl (.tmp 4) (.tmp 16) rfl (b + 2) 0 3 (.int .i64 x.1) _ rfl rfl rfl rfl HT.out.n (by decide) ?_; intro W6 k6 c6; have K6 := O (And.intro k6 c6); clear k6 c6)
    | ((with_reducible refine s0 4 ?_); refine wpList_store_one (by kernel_rfl) rfl (.tmp 5) (.const (.bool true)) rfl (b + 3) 0 4 (.bool true) _ rfl rfl rfl rfl (K6.out.2.blk (by omega) HT.out.q) (by decide) ?_; intro W7 k7 c7; have K7 := O (And.intro k7 c7); clear k7 c7)
   )
   refine wpIn_ret ?_
   have hle := HT.out.le
   have hT7 : Tb w b id x.1 true W7 := ⟨K7.out.2.blk (by omega) (K6.out.2.blk (by omega) HT.out.i), K7.out.2.blk (by omega) K6.out.1, K7.out.1, K7.out.2.below (by omega) (K6.out.2.below (by omega) HT.out.lo), hle⟩
   have hkk : Kk (oT b) W W7 := ⟨by rw [K7.out.2.size, K6.out.2.size]; exact Nat.le_refl _, fun k _ hno => (K7.out.2.hpc fun e => hno (.inr e)).trans (K6.out.2.hpc fun e => hno (.inl e))⟩
   have hkf : KeepsFrom W5.heap.size W W7 := ⟨hkk.size, fun k o hk ho _ => (hkk.keep k (Array.getElem?_eq_some_iff.1 ho).1 fun e => by
    have h1 := hwB.out.2
    rcases e with rfl | rfl <;> omega).trans ho⟩
   exact ⟨hkf, hkk, rfl, HPR.out.2, pre, x, rfl, HPR.out.1, HX.out, hT7⟩
  ·have HX := O hx
   go_wp2_with fail
   clear c21 c3
   have hbq : (x.2.sid == id) = false := by simpa using HX.out
   refine wpIn_cond_false (congrArg Value.bool hbq) ?_
   refine wpIn_skip ?_
   show KeepsFrom W5.heap.size W W ∧ Ko (oT b) W W ∧ ((∀ y ∈ pre ++ [x], y.2.sid ≠ id) ∧ Tb w b id 0 false W)
   refine ⟨⟨Nat.le_refl _, fun k o _ h _ => h⟩, ⟨Nat.le_refl _, fun _ _ _ => rfl, fun k h => .inl h⟩, fun y hy => ?_, HT.out⟩
   rcases List.mem_append.1 hy with h | h
   ·exact HPR.out.1 y h
   ·rw [List.mem_singleton.1 h]
    exact HX.out
 ·rintro D W hD ⟨hno, hTb⟩ hK
  have HT := O hTb
  have HD := O (And.intro hD hK)
  have HN : Hid ((thr (ovL 0 P.threads) id) = (0, false)) := O (by
   unfold thr
   rw [List.find?_eq_none.2 (fun y hy => by simpa using hno y hy)])
  clear hno hTb hD hK
  go_wp2_with fail
  refine U.out _ _ ?_
  clear U KK
  go_wp2_with (first
    | ((with_reducible refine s0 3 ?_); refine wpList_store_one info3' rfl (.tmp 4) (.const (.int .i64 0)) rfl (b + 2) 0 3 (.int .i64 0) _ rfl rfl rfl rfl HT.out.n (by decide) ?_; intro W6 k6 c6; have K6 := O (And.intro k6 c6); clear k6 c6)
    | ((with_reducible refine s0 4 ?_); refine wpList_store_one (by kernel_rfl) rfl (.tmp 5) (.const (.bool false)) rfl (b + 3) 0 4 (.bool false) _ rfl rfl rfl rfl (K6.out.2.blk (by omega) HT.out.q) (by decide) ?_; intro W7 k7 c7; have K7 := O (And.intro k7 c7); clear k7 c7)
  )
  have hle := HT.out.le
  have hT7 : Tb w b id 0 false W7 := ⟨K7.out.2.blk (by omega) (K6.out.2.blk (by omega) HT.out.i), K7.out.2.blk (by omega) K6.out.1, K7.out.1, K7.out.2.below (by omega) (K6.out.2.below (by omega) HT.out.lo), hle⟩
  have h1 := HD.out.1
  have h2 := hwB.out
  refine thread_end (B0 := B0) hT7 hwB.out.1 (by omega) (((K7.out.2.hpc (by omega)).trans (K6.out.2.hpc (by omega))).trans HD.out.2) rfl rfl fun W' h => ⟨h, ?_⟩
  rw [HN.out]
 ·rintro D c pre W hD ⟨rfl, hpr, p0, y, rfl, hno, hy, hTb⟩ hK
  have HT := O hTb
  have HD := O (And.intro hD hK)
  have HN : Hid ((thr (ovL 0 P.threads) id) = (y.1, true)) := O (by
   obtain ⟨r, hr⟩ := hpr
   unfold thr
   rw [← hr, List.append_assoc, List.find?_append, List.find?_eq_none.2 (fun z hz => by simpa using hno z hz), List.cons_append, List.find?_cons_of_pos (by simpa using hy)]
   rfl)
  clear hno hTb hD hK hpr hy
  refine wpIn_wide.2 ?_
  go_wp2_with fail
  have h1 := HD.out.1
  have h2 := hwB.out
  refine thread_end (B0 := B0) HT.out hwB.out.1 (by omega) HD.out.2 rfl rfl fun W' h => ⟨h, ?_⟩
  rw [HN.out]
end Go.Proofs.YtgppcdfgdaggjaaGreatDoor
set_option maxRecDepth 100000
set_option maxHeartbeats 8000000
namespace Go.Proofs.YtgppcdfgdaggjaaGreatDoor
open Go.RowKit Go.Maps
theorem append_none {P : Program} (w : World) (t ty e : TypeId) (i : TypeInfo) (ht : P.underlying t = some (.slice e)) (hi : P.info? e = some i) (b : Option Addr) (n cap c : Nat) (q : Addr) (h : n ≤ cap) : (Builtin.append_ #[t, t] ty #[.slice b n cap, .slice none 0 c]).run P w = (Builtin.append_ #[t, t] ty #[.slice b n cap, .slice (some q) 0 c]).run P w := by
 simp [Builtin.append_, run_underlying ht, sizeOf, typeInfo, hi, Builtin.lenOf, Builtin.firstCells, loadCells, loadCellsFrom, h]
/-- The cells of many, one behind the other. -/
theorem flat_len {n : Nat} : ∀ (L : List (List Value)), (∀ c ∈ L, c.length = n) → L.flatten.length = L.length * n
 | [], _ => by simp
 | c :: r, h => by
  rw [List.flatten_cons, List.length_append, h c (by simp), flat_len r (fun d hd => h d (by simp [hd])), List.length_cons, Nat.succ_mul, Nat.add_comm]
section
variable {α : Type}
theorem run_append_ro (E : El α) (t ty : TypeId) (i : TypeInfo) (z : Value) (ht : Tryz.prog.underlying t = some (.slice E.ty)) (hi : Tryz.prog.info? E.ty = some i) (hz : i.zero = some z) (h1 : i.size = E.sz) (h2 : z.cells.size = E.sz) (h3 : 0 < E.sz) (h4 : i.bytes ≤ 1024)
  {B : Nat} {w : World} {v vx : Value} {l m : List α} (hG : Grow E B w v l) (hm : Ro E (fun c => B ≤ c ∧ v.ownBlock ≠ some c) w vx m) (hlm : l.length + m.length ≤ 100000000) (hB : B ≤ w.heap.size) :
  ∃ v' w', (Builtin.append_ #[t, t] ty #[v, vx]).run Tryz.prog w = .ok v' w' ∧ Grow E B w' v' (l ++ m) ∧ Below B w w' := by
 obtain ⟨xs, hx, hown, hel⟩ := id hG.own
 obtain ⟨cells, a, cap, rfl, hr, hc, hcz, hce, hne⟩ := hm.flat
 obtain ⟨a0, cap0, rfl, hr0⟩ := hG.form
 have hnl : cells.flatten.length = m.length * E.sz := by rw [flat_len cells fun c h => (hcz c h).1, hc]
 have hone : ∀ u ∈ cells.flatten, u.oneCell' = true := fun u hu => by
  obtain ⟨c, h1, h2⟩ := List.mem_flatten.1 hu
  exact (hcz c h1).2 u h2
 have hby : (l.length + m.length) * i.bytes ≤ 140737488355328 := by
  calc (l.length + m.length) * i.bytes ≤ 100000001 * 1024 := Nat.mul_le_mul (by omega) h4
  _ ≤ 140737488355328 := by decide
 obtain ⟨q, hq, hnews⟩ : ∃ q : Addr, (Builtin.append_ #[t, t] ty #[.slice a0 l.length cap0, .slice a m.length cap]).run Tryz.prog w = (Builtin.append_ #[t, t] ty #[.slice a0 l.length cap0, .slice (some q) m.length cap]).run Tryz.prog w ∧ ∀ j u, cells.flatten[j]? = some u → w.cell? (q.add j) = some u := by
  by_cases hme : m = []
  ·subst hme
   have e : cells = [] := List.eq_nil_of_length_eq_zero (by simpa using hc)
   subst e
   rcases a with _ | q
   ·exact ⟨⟨0, 0, none⟩, append_none w t ty E.ty i ht hi _ _ _ _ _ hr0.1, fun j u h => by simp at h⟩
   ·exact ⟨q, rfl, fun j u h => by simp at h⟩
  ·obtain ⟨b, off, rfl, -, h⟩ := hne hme
   exact ⟨⟨b, off, none⟩, rfl, fun j u hj => by
    rw [Addr.add_mid]
    exact flat_cells cells (fun c h => (hcz c h).1) h j u hj⟩
 obtain ⟨v', w', hrun, ho, hg, -, hv⟩ := run_append_own_at (P := Tryz.prog) w B t ty E.ty i z E.sz i.bytes ht hi hz h1 rfl h2 h3 _ l.length xs.flatten hown q m.length cap cells.flatten hnl hnews hone (by unfold maxLen; omega) hby hB
 have hlt := hown.lt
 have hsz := hg.size
 have hkeep : ∀ c, c < w.heap.size → (Value.slice a0 l.length cap0).ownBlock ≠ some c → w'.heap[c]? = w.heap[c]? := fun c h1 h2 => hg.block c h1 (fun e => h2 e.symm)
 refine ⟨v', w', hq.trans hrun, ⟨xs ++ cells, by simp [hx, hc], ?_, ?_⟩, ⟨hg.os, hg.tape, hg.output, hsz, fun k hk => hkeep k (by omega) (fun e => by have := (hlt k e).1; omega)⟩⟩
 ·simpa using ho
 ·have J : ∀ (d : List Value) (u : α), E.L (fun c => (B ≤ c ∧ (Value.slice a0 l.length cap0).ownBlock ≠ some c) ∧ c < w.heap.size) w d u → E.L (fun c => (B ≤ c ∧ v'.ownBlock ≠ some c) ∧ c < w'.heap.size) w' d u := fun d u G =>
   E.weak (fun c A => ⟨⟨A.1.1, fun e => by
    rcases hv with h | h
    ·exact A.1.2 (h.symm.trans e)
    ·rw [h] at e
     cases e
     have := A.2
     omega⟩, by omega⟩) (E.keep (fun b o u H hv => by
      rw [← hv]
      exact World.cellF_of (hkeep b H.2 H.1.2) o) G)
  intro j d u hd hu
  rcases Nat.lt_or_ge j l.length with hj | hj
  ·rw [List.getElem?_append_left (by omega)] at hd hu
   exact J _ _ (hel j d u hd hu)
  ·rw [List.getElem?_append_right (by omega)] at hd hu
   rw [hx] at hd
   exact J _ _ (E.bound (hce _ d u hd hu))
theorem wp_append_ro {o : Oper} {a : Act} {U : Act → World → Prop} {Q : Exit → Act → World → Prop} (E : El α) (s x : Operand) (t : TypeId) (V : o.op = .call { callee := .builtin .append, args := #[s, x], argTypes := #[t, t] }) (i : TypeInfo) (z : Value) (ht : Tryz.prog.underlying t = some (.slice E.ty)) (hi : Tryz.prog.info? E.ty = some i) (hz : i.zero = some z) (h1 : i.size = E.sz) (h2 : z.cells.size = E.sz) (h3 : 0 < E.sz) (h4 : i.bytes ≤ 1024)
  (B : Nat) (w : World) (v vx : Value) (l m : List α) (hs : a.eval s = v) (hG : Grow E B w v l) (hx : a.eval x = vx) (hm : Ro E (fun c => B ≤ c ∧ v.ownBlock ≠ some c) w vx m) (hlm : l.length + m.length ≤ 100000000) (hB : B ≤ w.heap.size)
  (h : ∀ v' w', Grow E B w' v' (l ++ m) → Below B w w' → U (a.put o.dst v') w') : o.wp Tryz.prog a w U Q := by
 obtain ⟨v', w', hr, h5, h6⟩ := run_append_ro E t o.type i z ht hi hz h1 h2 h3 h4 hG hm hlm hB
 unfold Oper.wp execOp
 simp only [V, resolve, invoke, builtin, Sem.run_bind, Sem.run_pure, Result.andThen_ok, List.map_toArray, List.map_cons, List.map_nil, hs, hx, hr]
 exact h v' w' h5 h6
theorem wpList_append_ro {C : Array Oper} {r : List Oper} {o : Oper} {a : Act} {Q : Exit → Act → World → Prop} (E : El α) (N : o.guard = none) (s x : Operand) (t : TypeId) (V : o.op = .call { callee := .builtin .append, args := #[s, x], argTypes := #[t, t] }) (i : TypeInfo) (z : Value) (ht : Tryz.prog.underlying t = some (.slice E.ty)) (hi : Tryz.prog.info? E.ty = some i) (hz : i.zero = some z) (h1 : i.size = E.sz) (h2 : z.cells.size = E.sz) (h3 : 0 < E.sz) (h4 : i.bytes ≤ 1024)
  (B : Nat) (w : World) (v vx : Value) (l m : List α) (hs : a.eval s = v) (hG : Grow E B w v l) (hx : a.eval x = vx) (hm : Ro E (fun c => B ≤ c ∧ v.ownBlock ≠ some c) w vx m) (hlm : l.length + m.length ≤ 100000000) (hB : B ≤ w.heap.size)
  (h : ∀ v' w', Grow E B w' v' (l ++ m) → Below B w w' → wpList Tryz.prog C Q r (a.put o.dst v') w') : wpList Tryz.prog C Q (o :: r) a w :=
 wpList_plain N fun _ hK => wp_append_ro E s x t V i z ht hi hz h1 h2 h3 h4 B w v vx l m hs hG hx hm hlm hB fun v' w' h5 h6 => hK _ _ (h v' w' h5 h6)
end
mutual
def alS : St → List St
 | .mk k l c s t x y body els id sl ot lo => .mk k l c s t x y body els id sl ot lo :: (alL body ++ alL els)
def alL : List St → List St
 | [] => []
 | s :: r => alS s ++ alL r
end
mutual
theorem wkS_snd (d : Nat) : ∀ s : St, (wkS d s).map Prod.snd = alS s
 | .mk k l c s t x y body els id sl ot lo => by
  unfold wkS alS
  rw [List.map_cons, List.map_append, wkL_snd (d + 1) body, wkL_snd (d + 1) els]
theorem wkL_snd (d : Nat) : ∀ l : List St, (wkL d l).map Prod.snd = alL l
 | [] => rfl
 | s :: r => by
  unfold wkL alL
  rw [List.map_append, wkS_snd d s, wkL_snd d r]
end
theorem alL_app : ∀ (l m : List St), alL (l ++ m) = alL l ++ alL m
 | [], m => by simp [alL]
 | s :: l, m => by
  rw [List.cons_append, alL, alL, alL_app l m, List.append_assoc]
end Go.Proofs.YtgppcdfgdaggjaaGreatDoor
set_option maxRecDepth 100000
set_option maxHeartbeats 8000000
namespace Go.Proofs.YtgppcdfgdaggjaaGreatDoor
open Go.RowKit Go.Maps
theorem sts_ro {ok : Nat → Prop} {w : World} {a : Option Addr} {cap : Nat} {l : List St} (hr : Roomy l.length cap) (h : StsL ok w a 0 l) : Ro elSt ok w (.slice a l.length cap) l := ⟨a, cap, rfl, hr, fun j x hx => by
 have hj := (List.getElem?_eq_some_iff.1 hx).1
 obtain ⟨b, g, cs, h1, h2, h3, h4⟩ := StsL.atF h j hj
 have e : l.getD j default = x := by rw [List.getD_eq_getElem?_getD, hx]; rfl
 rw [e] at h4
 refine ⟨b, g, cs, h1, h2, fun t u ht => ?_, h4⟩
 have := h3 t u ht
 rw [Nat.zero_add] at this
 exact this⟩
/-- Statements that lie in a given world. -/
def elAt (w0 : World) : El St where
 ty := 60
 sz := 25
 L := fun _ _ cs x => StL (fun _ => True) w0 cs x
 keep := fun _ h => h
 weak := fun _ h => h
 bound := fun h => h
 cells := fun h => StL.cells h
/-- What All leaves. -/
def AlR (w0 w : World) (l : List St) (e : Ending) (w' : World) : Prop := bL w w' ∧ ∃ v, e = .returned v ∧ Grow (elAt w0) w.heap.size w' v (alL l)
theorem alL_len : ∀ (l : List St) (i : Nat), i < l.length → (alL (l.take i)).length + (alS (l.getD i default)).length ≤ (alL l).length := fun l i hi => by
 have h : alL l = alL (l.take i) ++ (alS (l.getD i default) ++ alL (l.drop (i + 1))) := by
  conv => lhs; rw [← List.take_append_drop i l]
  rw [alL_app, List.drop_eq_getElem_cons hi, alL, List.getD_eq_getElem?_getD, List.getElem?_eq_getElem hi]
  rfl
 rw [h, List.length_append, List.length_append]
 omega
def St.bdy : St → List St
 | .mk _ _ _ _ _ _ _ body _ _ _ _ _ => body
def St.elz : St → List St
 | .mk _ _ _ _ _ _ _ _ els _ _ _ _ => els
theorem alS_eq : ∀ s : St, alS s = s :: (alL s.bdy ++ alL s.elz)
 | .mk _ _ _ _ _ _ _ _ _ _ _ _ _ => by unfold alS; rfl
theorem StL.lists {ok : Nat → Prop} {w : World} {cs : List Value} {s : St} (h : StL ok w cs s) : ∃ a a' cap cap', cs[19]? = some (.slice a s.bdy.length cap) ∧ cs[20]? = some (.slice a' s.elz.length cap') ∧ Roomy s.bdy.length cap ∧ StsL ok w a 0 s.bdy ∧ Roomy s.elz.length cap' ∧ StsL ok w a' 0 s.elz := by
 obtain ⟨k, l, c, s, t, x, y, body, els, id, sl, ot, lo⟩ := s
 unfold StL at h
 obtain ⟨cx, cy, a, a', cap, cap', hcs, hX, hY, h4, h5, h6, h7⟩ := h
 have h2 : cs = stC k l c s t cx cy (.slice a body.length cap) (.slice a' els.length cap') id sl ot lo := hcs
 have h8 := stC_at h2 hX.cells.1 hY.cells.1
 exact ⟨a, a', cap, cap', h8.2.2.2.2.2.1, h8.2.2.2.2.2.2.1, h4, h5, h6, h7⟩
theorem Grow.ro {α : Type} {E : El α} {B : Nat} {w : World} {v : Value} {l : List α} (h : Grow E B w v l) (hz : 0 < E.sz) : Ro E (B ≤ ·) w v l := (h.roN (ga := none) hz fun _ e => by cases e).weak fun _ h => h.1
theorem rall_step (w0 : World) (l : List St) (IH : ∀ y ∈ l, ∀ m, (m = St.bdy y ∨ m = St.elz y) → ∀ (W : World) (a : Option Addr) (cap : Nat), bL w0 W → Roomy m.length cap → StsL (fun _ => True) w0 a 0 m → (alL m).length ≤ 10000000 → Calls Tryz.prog 22 #[.slice a m.length cap] W (AlR w0 W m))
 {w : World} {a : Option Addr} {cap : Nat} (HR : Roomy l.length cap) (hb0 : bL w0 w) (HL : StsL (fun _ => True) w0 a 0 l) (hL : (alL l).length ≤ 10000000) : Calls Tryz.prog 22 #[.slice a l.length cap] w (AlR w0 w l) := by
 have c9 : Hid (Tryz.prog.underlying 44 = some (.slice 60)) := O (by kernel_rfl)
 obtain ⟨d9, h9, g2⟩ := under60
 obtain ⟨i0, z0, M, a0, V7, Z, a4⟩ := info_el infoSt
 have HC := O HL
 have HB0 := O hb0
 have HI := O IH
 have HLN := O fun _ : True => hL
 obtain ⟨C, hN⟩ := eX l.length
 rw [hN] at HR ⊢
 have Q := O hN
 have d8 := O HR
 clear hN HR HL IH hL hb0
 go_enter Tryz.func22, Tryz.ntmps22
 refine wk fun KK U => ?_
 go_wp2_with fail
 refine U.out _ _ ?_
 clear U KK
 refine wk fun KK U => ?_
 go_wp2_with fail
 refine U.out _ _ ?_
 clear U KK
 refine wk fun KK a2 => ?_
 go_wp2_with fail
 go_loopg [3, 4] C (fun x sv iv wr => ∃ (i : Nat) (acc : List St), i ≤ C ∧ x = C - i ∧ iv = I i ∧ Hid (acc = alL (l.take i)) ∧ Hid (Grow (elAt w0) w.heap.size wr sv acc) ∧ Hid (bL w wr))
 case atStart => exact ⟨0, [], Nat.zero_le _, rfl, rfl, O rfl, O (Grow.nil _ _ _), O (Below.refl _ _)⟩
 case round =>
  obtain ⟨i, acc, hi, rfl, rfl, X, S, E⟩ := hrel
  obtain ⟨ga, a8, rfl, b6⟩ := S.out.form
  have i4 := O b6
  clear b6
  by_cases a5 : i < C
  ·have h9' : (i : Int) < (C : Int) := by omega
   have h8 : (0 : Int) ≤ (i : Int) := by omega
   have f4 : Hid (wrap64 ((i : Int) + 1) = ((i + 1 : Nat) : Int)) := O (by
    have h1 := d8.out.1
    have h2 := d8.out.2
    have := IntWalk.wrap64_in ((i : Int) + 1) (by omega)
    rw [this]
    omega)
   have hiq : i < l.length := by rw [Q.out]; exact a5
   obtain ⟨b2, b8, ds, rfl, -, e3, a3⟩ := StsL.atF HC.out i hiq
   rw [Nat.zero_add] at e3
   have d2 : l.getD i default ∈ l := by
    rw [List.getD_eq_getElem?_getD, List.getElem?_eq_getElem hiq]
    exact List.getElem_mem _
   have d6 : alL (l.take (i + 1)) = alL (l.take i) ++ alS (l.getD i default) := by
    rw [List.take_succ_eq_append_getElem hiq, alL_app, List.getD_eq_getElem?_getD, List.getElem?_eq_getElem hiq]
    simp [alL]
   have d7 := alL_len l i hiq
   have IHy := HI.out _ d2
   generalize l.getD i default = y at *
   obtain ⟨ab, ae, cb, ce, q19, q20, rb, sb, re, se⟩ := a3.lists
   rw [alS_eq, List.length_cons, List.length_append] at d7
   have HLs : Hid (acc.length + ((alL y.bdy).length + (alL y.elz).length + 1) ≤ 10000000) := O (by
    have h1 := HLN.out trivial
    rw [X.out]
    omega)
   have HY := O IHy
   have g6 : Hid (alL (l.take (i + 1)) = acc ++ [y] ++ alL y.bdy ++ alL y.elz) := O (by rw [d6, ← X.out, alS_eq]; simp)
   have hcl := O a3.cells
   have HX : Hid (∀ W', bL w W' → W'.rangeAt b2 (b8 + i * 25) ds ∧ StL (fun _ => True) w0 ds y) := O fun W' hb => ⟨fun t v hv => below_cl (HB0.out.trans (hb.mono HB0.out.size)) _ _ _ (World.cellF_cell (e3 t v hv)), a3⟩
   have HBE : Hid (Roomy y.bdy.length cb ∧ StsL (fun _ => True) w0 ab 0 y.bdy ∧ Roomy y.elz.length ce ∧ StsL (fun _ => True) w0 ae 0 y.elz ∧ ds[19]? = some (.slice ab y.bdy.length cb) ∧ ds[20]? = some (.slice ae y.elz.length ce)) := O ⟨rb, sb, re, se, q19, q20⟩
   clear IHy e3 a3 d2 d6 d7 hiq q19 q20 rb sb re se
   have HW : Hid (wr.rangeAt b2 (b8 + i * 25) ds) := O (HX.out wr E.out).1
   go_wp2_with (first
    | ((with_reducible refine l1 15 60 ?_); refine wpList_load_mid rfl 60 (.tmp 14) rfl b2 (b8 + i * 25) rfl ds d9 HW.out h9 g2 (by rw [hcl.out.1]; exact info64) ?_)
    | ((with_reducible show wpList _ _ _ (Oper.mk (some 16) _ _ _ _ _ :: _) _ _); refine wpList_build1 rfl (.tmp 15) rfl c9.out M a0 V7 Z (by decide) (by decide) _ ds rfl rfl hcl.out.1 ?_; obtain ⟨gE, a1⟩ := eX (wr.heap.size); rw [a1]; intro Wb kb bb sb; have KB := O kb; have S6 := O (S.out.below bb); have E6 := O (E.out.trans (bb.mono E.out.size)); have LG := O (show gE = wr.heap.size from a1.symm); clear kb bb sb a1 S E)
    | (at_builtin; refine wpList_append_at (elAt w0) rfl (.tmp 11) (.tmp 16) 44 rfl i0 z0 c9.out M a0 V7 Z (Nat.succ_pos 24) a4 w.heap.size Wb (.slice ga acc.length a8) acc rfl S6.out ds y ?_ _ 60 KB.out rfl (by have := HLs.out; omega) E6.out.size ?_; rotate_left; intro gb i1 W9 e2 d7 e5 e8; have S7 := O e2; have E7 := O (E6.out.trans d7); have q19 : W9.cell? ⟨b2, b8 + i * 25 + 19, none⟩ = some (.slice ab y.bdy.length cb) := (HX.out W9 E7.out).1 19 _ HBE.out.2.2.2.2.1; clear e2 d7 e5 e8 S6 E6 KB)
   )
   rotate_left
   ·exact (HX.out Wb E6.out).2
   refine (HY.out y.bdy (.inl rfl) W9 ab cb (HB0.out.trans (E7.out.mono HB0.out.size)) HBE.out.1 HBE.out.2.1 (by have := HLs.out; omega)).mono ?_
   rintro e V1 ⟨hb1, v1, rfl, hg1⟩
   have S8 := O (S7.out.below hb1)
   have E8 := O (E7.out.trans (hb1.mono E7.out.size))
   have R8 : Hid (Ro (elAt w0) (fun c => w.heap.size ≤ c ∧ (Value.slice (some ⟨gb, 0, none⟩) (acc.length + 1) i1).ownBlock ≠ some c) V1 v1 (alL y.bdy)) := O ((hg1.ro (Nat.succ_pos 24)).weak fun c hc => by
    have h1 := E7.out.size
    have h2 := (S7.out.olt rfl).2
    exact ⟨by omega, fun e => by cases e; omega⟩)
   clear hb1 hg1 S7 E7 q19
   go_wp2_with (first
    | ((with_reducible show wpList _ _ _ (Oper.mk (some 25) _ _ _ _ _ :: _) _ _); refine wpList_append_ro (elAt w0) rfl (.tmp 18) (.tmp 24) 44 rfl i0 z0 c9.out M a0 V7 Z (Nat.succ_pos 24) a4 w.heap.size V1 _ v1 (acc ++ [y]) (alL y.bdy) rfl S8.out rfl R8.out (by have := HLs.out; simp only [List.length_append, List.length_cons, List.length_nil]; omega) E8.out.size ?_; intro v2 W10 e2 d7; have S9 := O e2; have E9 := O (E8.out.trans d7); have q20 : W10.cell? ⟨b2, b8 + i * 25 + 20, none⟩ = some (.slice ae y.elz.length ce) := (HX.out W10 E9.out).1 20 _ HBE.out.2.2.2.2.2; clear e2 d7 S8 E8 R8)
   )
   refine (HY.out y.elz (.inr rfl) W10 ae ce (HB0.out.trans (E9.out.mono HB0.out.size)) HBE.out.2.2.1 HBE.out.2.2.2.1 (by have := HLs.out; omega)).mono ?_
   rintro e V2 ⟨hb1, v3, rfl, hg1⟩
   have SA := O (S9.out.below hb1)
   have EA := O (E9.out.trans (hb1.mono E9.out.size))
   have RA : Hid (Ro (elAt w0) (fun c => w.heap.size ≤ c ∧ v2.ownBlock ≠ some c) V2 v3 (alL y.elz)) := O ((hg1.ro (Nat.succ_pos 24)).weak fun c hc => by
    have h1 := E9.out.size
    exact ⟨by omega, fun e => by have h2 := (S9.out.olt e).2; omega⟩)
   clear hb1 hg1 S9 E9 q20
   go_wp2_with (first
    | ((with_reducible show wpList _ _ _ (Oper.mk (some 33) _ _ _ _ _ :: _) _ _); refine wpList_append_ro (elAt w0) rfl (.tmp 26) (.tmp 32) 44 rfl i0 z0 c9.out M a0 V7 Z (Nat.succ_pos 24) a4 w.heap.size V2 _ v3 (acc ++ [y] ++ alL y.bdy) (alL y.elz) rfl SA.out rfl RA.out (by have := HLs.out; simp only [List.length_append, List.length_cons, List.length_nil]; omega) EA.out.size ?_; intro v4 W11 e2 d7; have SB := O e2; have EB := O (EA.out.trans d7); clear e2 d7 SA EA RA)
   )
   go_roundg (C - (i + 1))
   case measure => omega
   case rel => exact ⟨i + 1, _, by omega, rfl, congrArg (Value.int .i64) f4.out, O g6.out.symm, SB, EB⟩
  ·obtain rfl : i = C := by omega
   have i2 : ¬ (i : Int) < (i : Int) := by omega
   have hacc : acc = alL l := by rw [X.out, List.take_of_length_le (by rw [Q.out]; exact Nat.le_refl _)]
   subst hacc
   go_wp2_with fail
   refine a2.out _ _ ?_
   clear a2
   go_wp2_with fail
   go_ret
   exact ⟨E.out, _, rfl, S.out⟩
theorem rall_any (w0 : World) : ∀ (n : Nat) (l : List St), (alL l).length < n → (alL l).length ≤ 10000000 → ∀ {w : World} {a : Option Addr} {cap : Nat}, Roomy l.length cap → bL w0 w → StsL (fun _ => True) w0 a 0 l → Calls Tryz.prog 22 #[.slice a l.length cap] w (AlR w0 w l)
 | 0, l, h, _, _, _, _, _, _, _ => absurd h (Nat.not_lt_zero _)
 | n + 1, l, h, hL, w, a, cap, HR, hb, HL => by
  refine rall_step w0 l (fun y hy m hm W a' cap' hb' hr' hl' hn' => rall_any w0 n m ?_ hn' hr' hb' hl') HR hb HL hL
  obtain ⟨i, hi, rfl⟩ := List.mem_iff_getElem.1 hy
  have h1 := alL_len l i hi
  rw [List.getD_eq_getElem?_getD, List.getElem?_eq_getElem hi] at h1
  have h2 : (alS l[i]).length = (alL l[i].bdy).length + (alL l[i].elz).length + 1 := by
   rw [alS_eq, List.length_cons, List.length_append]
  have h3 : ((some l[i]).getD default) = l[i] := rfl
  rw [h3] at h1
  rcases hm with rfl | rfl <;> omega
theorem Grow.atw {w0 w : World} {B : Nat} {v : Value} {l : List St} (h : Grow (elAt w0) B w v l) (hb : bL w0 w) : Ro elSt (fun _ => True) w v l := by
 obtain ⟨a, cap, rfl, hr, hl⟩ := h.ro (Nat.succ_pos 24)
 refine ⟨a, cap, rfl, hr, fun j x hx => ?_⟩
 obtain ⟨b, g, cs, h1, -, h3, h4⟩ := hl j x hx
 exact ⟨b, g, cs, h1, trivial, h3, StL.keep (fun b o v _ hv => below_cell hb b o v hv) h4⟩
end Go.Proofs.YtgppcdfgdaggjaaGreatDoor
