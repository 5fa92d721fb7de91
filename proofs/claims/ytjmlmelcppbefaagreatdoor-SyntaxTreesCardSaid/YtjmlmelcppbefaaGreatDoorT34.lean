/- What the syntax texts share, part 34. No condition. -/
import Derived.Test.YtjmlmelcppbefaaGreatDoorT33
namespace Go.Proofs.YtjmlmelcppbefaaGreatDoor
open Go.RowKit Go.Maps
theorem Out.iteN {α : Type} {bad bf c : Bool} {k j : Nat} {R1 R2 : PR α} {x : α} (hm : (!bad && c) = false) (h : Out bad k R2 x j bf) : Out bad k (if c = true then R1 else R2) x j bf := by
 cases bad
 ·simp only [Bool.not_false, Bool.true_and] at hm
  rw [if_neg (by rw [hm]; exact Bool.false_ne_true)]
  exact h
 ·rcases h with ⟨-, h1, h2⟩ | ⟨h, -⟩ | ⟨h, -⟩
  ·exact .inl ⟨rfl, h1, h2⟩
  ·cases h
  ·cases h
theorem Out.iteP {α : Type} {bad bf c : Bool} {k k1 j : Nat} {R1 R2 : PR α} {x : α} (hm : (!bad && c) = true) (h : Out bad k1 R1 x j bf) : Out bad k (if c = true then R1 else R2) x j bf := by
 cases bad
 ·simp only [Bool.not_false, Bool.true_and] at hm
  rw [if_pos hm]
  exact h.from
 ·cases hm
set_option maxRecDepth 100000 in
set_option maxHeartbeats 8000000 in
theorem dsA {w V : World} {b sb k : Nat} {S : Src} {li co : Int}  (h : Ds w b sb S V k false (mkSt 0 (li, co) noB noB zEx zEx [] [])) {u1 u4 u5 u6 u7 u8 u9 u10 u11 u12 u13 u14 u15 u16 u17 u18 u19 u20 u21 u22 u23 u24 u25 u26 u27 u28 u29 u30 u31 u32 u33 u34 u35 u36 u37 u38 u39 u40 u41 u42 u43 u44 u45 u46 u47 u48 u49 u50 u51 u52 u53 u54 u55 u56 u57 u58 u59 u60 u61 u62 u63 u64 u65 u66 u67 u68 u69 u70 u71 u72 u73 u74 u75 u76 u77 u78 u79 u80 u81 u82 u83 u84 u85 u86 u87 u88 u89 u90 u91 u92 u93 u94 u95 u96 u97 u98 u99 u100 u101 u102 u103 u104 u105 u106 u107 u108 u109 u110 u111 u112 : Value} :
  Code.wp Tryz.prog (dropS 4 (Tryz.f124.body.getD .skip)) (bodyPost Tryz.prog Tryz.f124 (DSk w b S k (pAssign S.T (li, co) k))) ⟨#[.pointer (some ⟨b, 0, none⟩), u1, .pointer (some ⟨w.heap.size, 0, none⟩), .pointer (some ⟨sb, 0, none⟩), u4, u5, u6, u7, u8, u9, u10, u11, u12, u13, u14, u15, u16, u17, u18, u19, u20, u21, u22, u23, u24, u25, u26, u27, u28, u29, u30, u31, u32, u33, u34, u35, u36, u37, u38, u39, u40, u41, u42, u43, u44, u45, u46, u47, u48, u49, u50, u51, u52, u53, u54, u55, u56, u57, u58, u59, u60, u61, u62, u63, u64, u65, u66, u67, u68, u69, u70, u71, u72, u73, u74, u75, u76, u77, u78, u79, u80, u81, u82, u83, u84, u85, u86, u87, u88, u89, u90, u91, u92, u93, u94, u95, u96, u97, u98, u99, u100, u101, u102, u103, u104, u105, u106, u107, u108, u109, u110, u111, u112], []⟩ V := by
 obtain ⟨d64, hu64, hr64⟩ := under64
 conv in (dropS _ _) => whnf
 have hmx := h.r.mx
 have hle := h.r.le
 have hkm : (k : Int) < 1000000 + 1 := by omega
 have c0 := h.c0
 have e0 : (mkSt 0 (li, co) noB noB zEx zEx [] []).kd = 0 := rfl
 rw [e0] at c0
 clear e0
 have hs0 : sb ≠ b := by have := h.B; have := h.blt; omega
 have HE := Lib.hid h
 clear h
 go_wp2_with fail
 clear c0
 obtain hQ2 := HE.out
 clear HE
 refine (rname_rd hQ2.r).mono ?_
 rintro e W2 ⟨hk2, x2, j2, b2, rfl, O2, r2⟩
 have q2 := hQ2.call hk2 r2
 clear hQ2 hk2 r2
 obtain ⟨v3, c3⟩ := q2.s.cell (j := 3) (by decide)
 have f3 := q2.s.frozen 3
 obtain ⟨v0, c0⟩ := q2.s.cell (j := 0) (by decide)
 have f0 := q2.s.frozen 0
 have HE := Lib.hid ((q2.name x2).kind 2)
 have HO2 := Lib.hid O2
 clear q2 O2
 go_wp2_with fail
 clear c0 f0 c3 f3
 generalize (W2.setCell ⟨sb, 3, none⟩ (.string x2)).setCell ⟨sb, 0, none⟩ (.int .i64 2) = V2 at *
 obtain hQ3 := HE.out
 clear HE
 refine (rtake_any hQ3.r sBrO).mono ?_
 rintro e W3 ⟨hk3, rfl, r3⟩
 obtain ⟨m, hm⟩ : ∃ m, (!b2 && isT S.T j2 sBrO) = m := ⟨_, rfl⟩
 rw [hm] at r3 ⊢
 have q3 := hQ3.call hk3 r3
 have HM := Lib.hid hm
 clear hQ3 hk3 r3 hm
 cases m
 ·simp only [Bool.false_eq_true, if_false] at q3
  have HE := Lib.hid q3
  clear q3
  go_wp2_with fail
  obtain hQ4 := HE.out
  clear HE
  refine (rmust_any hQ4.r sEq).mono ?_
  rintro e W4 ⟨hk4, rfl, j4, b4, O4, r4⟩
  have HE := Lib.hid (hQ4.call hk4 r4)
  have HO4 := Lib.hid O4
  clear hQ4 hk4 r4 O4
  go_wp2_with fail
  obtain hQ5 := HE.out
  clear HE
  have hne5 := pX_ne S.T hQ5.r.le
  have hcl5 := rexpr_any b S (4 * S.T.length + 4) _ _ 1 _ (by decide) (by decide) hQ5.r (fun _ => hne5)
  refine hcl5.mono ?_
  rintro e W5 ⟨hk5, cs5, x5, j5, b5, rfl, hX5, O5, r5⟩
  have q5 := hQ5.call hk5 r5
  have y5 := hQ5.part hX5
  clear hQ5 hk5 r5 hX5 hcl5 hne5
  have hr5 := st_run (q5.s.there (o := 5) (n := 7) (by decide)) y5.cells.1 y5.cells.2
  have hl5 := y5.cells.1
  have HE := Lib.hid (q5.expr y5)
  have HO5 := Lib.hid O5
  clear q5 O5 y5
  go_wp2_with fail
  clear hr5 hl5
  generalize W5.setCells sb 5 cs5 = V5 at *
  obtain hQ6 := HE.out
  clear HE
  refine (rmust_any hQ6.r sSemi).mono ?_
  rintro e W6 ⟨hk6, rfl, j6, b6, O6, r6⟩
  have HE := Lib.hid (hQ6.call hk6 r6)
  have HO6 := Lib.hid O6
  clear hQ6 hk6 r6 O6
  obtain hQ := HE.out
  clear HE
  have hO : Out false k (pAssign S.T (li, co) k) (((mkSt 0 (li, co) noB noB zEx zEx [] []).setName x2).setKind 2 |>.setExpr x5) j6 b6 := by
   unfold pAssign
   refine HO2.out.bind ?_
   exact Out.iteN HM.out (HO4.out.bind (HO5.out.bind (HO6.out.bind (Out.pure _ _ _))))
  obtain ⟨cs, hb, hl, h1c, hz, hD⟩ := hQ.told hO
  have HZ := Lib.hid hQ.z
  have HB := Lib.hid hb
  have HF := Lib.hid (And.intro hz hD)
  clear hQ hO hb hz hD
  go_wp2_with (first | ((with_reducible show wpList _ _ _ (Oper.mk none (.store 64 _ _) _ _ _ _ :: _) _ _); refine wpList_store_blk info64 rfl (.tmp 2) (.tmp 112) rfl w.heap.size cs zSt.toList rfl rfl HZ rfl hl h1c ?_) | ((with_reducible show wpList _ _ _ (Oper.mk _ (.load 64 _) _ _ _ _ :: _) _ _); refine wpList_load_blk hu64 hr64 info64 rfl (.tmp 3) rfl sb cs rfl HB hl ?_))
  exact end_blk hu64 hr64 info64 HF.out.1 hl rfl rfl rfl HF.out.2
 ·simp only [if_true] at q3
  obtain ⟨v0, c0⟩ := q3.s.cell (j := 0) (by decide)
  have f0 := q3.s.frozen 0
  have HE := Lib.hid (q3.kind 3)
  clear q3
  go_wp2_with fail
  clear c0 f0
  generalize W3.setCell ⟨sb, 0, none⟩ (.int .i64 3) = V3 at *
  obtain hQ4 := HE.out
  clear HE
  have hne4 := pX_ne S.T hQ4.r.le
  have hcl4 := rexpr_any b S (4 * S.T.length + 4) _ _ 1 _ (by decide) (by decide) hQ4.r (fun _ => hne4)
  refine hcl4.mono ?_
  rintro e W4 ⟨hk4, cs4, x4, j4, b4, rfl, hX4, O4, r4⟩
  have q4 := hQ4.call hk4 r4
  have y4 := hQ4.part hX4
  clear hQ4 hk4 r4 hX4 hcl4 hne4
  have hr4 := st_run (q4.s.there (o := 12) (n := 7) (by decide)) y4.cells.1 y4.cells.2
  have hl4 := y4.cells.1
  have HE := Lib.hid (q4.index y4)
  have HO4 := Lib.hid O4
  clear q4 O4 y4
  go_wp2_with fail
  clear hr4 hl4
  generalize W4.setCells sb 12 cs4 = V4 at *
  obtain hQ5 := HE.out
  clear HE
  refine (rmust_any hQ5.r sBrS).mono ?_
  rintro e W5 ⟨hk5, rfl, j5, b5, O5, r5⟩
  have HE := Lib.hid (hQ5.call hk5 r5)
  have HO5 := Lib.hid O5
  clear hQ5 hk5 r5 O5
  go_wp2_with fail
  obtain hQ6 := HE.out
  clear HE
  refine (rmust_any hQ6.r sEq).mono ?_
  rintro e W6 ⟨hk6, rfl, j6, b6, O6, r6⟩
  have HE := Lib.hid (hQ6.call hk6 r6)
  have HO6 := Lib.hid O6
  clear hQ6 hk6 r6 O6
  go_wp2_with fail
  obtain hQ7 := HE.out
  clear HE
  have hne7 := pX_ne S.T hQ7.r.le
  have hcl7 := rexpr_any b S (4 * S.T.length + 4) _ _ 1 _ (by decide) (by decide) hQ7.r (fun _ => hne7)
  refine hcl7.mono ?_
  rintro e W7 ⟨hk7, cs7, x7, j7, b7, rfl, hX7, O7, r7⟩
  have q7 := hQ7.call hk7 r7
  have y7 := hQ7.part hX7
  clear hQ7 hk7 r7 hX7 hcl7 hne7
  have hr7 := st_run (q7.s.there (o := 5) (n := 7) (by decide)) y7.cells.1 y7.cells.2
  have hl7 := y7.cells.1
  have HE := Lib.hid (q7.expr y7)
  have HO7 := Lib.hid O7
  clear q7 O7 y7
  go_wp2_with fail
  clear hr7 hl7
  generalize W7.setCells sb 5 cs7 = V7 at *
  obtain hQ8 := HE.out
  clear HE
  refine (rmust_any hQ8.r sSemi).mono ?_
  rintro e W8 ⟨hk8, rfl, j8, b8, O8, r8⟩
  have HE := Lib.hid (hQ8.call hk8 r8)
  have HO8 := Lib.hid O8
  clear hQ8 hk8 r8 O8
  obtain hQ := HE.out
  clear HE
  have hO : Out false k (pAssign S.T (li, co) k) ((((mkSt 0 (li, co) noB noB zEx zEx [] []).setName x2).setKind 2).setKind 3 |>.setIndex x4 |>.setExpr x7) j8 b8 := by
   unfold pAssign
   refine HO2.out.bind ?_
   exact Out.iteP HM.out (HO4.out.bind (HO5.out.bind (HO6.out.bind (HO7.out.bind (HO8.out.bind (Out.pure _ _ _))))))
  obtain ⟨cs, hb, hl, h1c, hz, hD⟩ := hQ.told hO
  have HZ := Lib.hid hQ.z
  have HB := Lib.hid hb
  have HF := Lib.hid (And.intro hz hD)
  clear hQ hO hb hz hD
  go_wp2_with (first | ((with_reducible show wpList _ _ _ (Oper.mk none (.store 64 _ _) _ _ _ _ :: _) _ _); refine wpList_store_blk info64 rfl (.tmp 2) (.tmp 112) rfl w.heap.size cs zSt.toList rfl rfl HZ rfl hl h1c ?_) | ((with_reducible show wpList _ _ _ (Oper.mk _ (.load 64 _) _ _ _ _ :: _) _ _); refine wpList_load_blk hu64 hr64 info64 rfl (.tmp 3) rfl sb cs rfl HB hl ?_))
  exact end_blk hu64 hr64 info64 HF.out.1 hl rfl rfl rfl HF.out.2
set_option maxRecDepth 100000 in
set_option maxHeartbeats 8000000 in
theorem ds5 {w V : World} {b sb k : Nat} {S : Src} {li co : Int} {f : Nat} (hk : k < S.T.length) (hB : ∀ bd, DB b S f bd) (hne : (andT (pX S.T (k + 1)) fun x j => andT (pB S.T f j) fun bl m => some (.ok (mkSt 5 (li, co) noB noB x zEx bl [], m))) ≠ none) (h : Ds w b sb S V k false (mkSt 5 (li, co) noB noB zEx zEx [] [])) {u1 u4 u5 u6 u7 u8 u9 u10 u11 u12 u13 u14 u15 u16 u17 u18 u19 u20 u21 u22 u23 u24 u25 u26 u27 u28 u29 u30 u31 u32 u33 u34 u35 u36 u37 u38 u39 u40 u41 u42 u43 u44 u45 u46 u47 u48 u49 u50 u51 u52 u53 u54 u55 u56 u57 u58 u59 u60 u61 u62 u63 u64 u65 u66 u67 u68 u69 u70 u71 u72 u73 u74 u75 u76 u77 u78 u79 u80 u81 u82 u83 u84 u85 u86 u87 u88 u89 u90 u91 u92 u93 u94 u95 u96 u97 u98 u99 u100 u101 u102 u103 u104 u105 u106 u107 u108 u109 u110 u111 u112 : Value} :
  Code.wp Tryz.prog (dropS 4 (Tryz.f124.body.getD .skip)) (bodyPost Tryz.prog Tryz.f124 (DSk w b S k (andT (pX S.T (k + 1)) fun x j => andT (pB S.T f j) fun bl m => some (.ok (mkSt 5 (li, co) noB noB x zEx bl [], m))))) ⟨#[.pointer (some ⟨b, 0, none⟩), u1, .pointer (some ⟨w.heap.size, 0, none⟩), .pointer (some ⟨sb, 0, none⟩), u4, u5, u6, u7, u8, u9, u10, u11, u12, u13, u14, u15, u16, u17, u18, u19, u20, u21, u22, u23, u24, u25, u26, u27, u28, u29, u30, u31, u32, u33, u34, u35, u36, u37, u38, u39, u40, u41, u42, u43, u44, u45, u46, u47, u48, u49, u50, u51, u52, u53, u54, u55, u56, u57, u58, u59, u60, u61, u62, u63, u64, u65, u66, u67, u68, u69, u70, u71, u72, u73, u74, u75, u76, u77, u78, u79, u80, u81, u82, u83, u84, u85, u86, u87, u88, u89, u90, u91, u92, u93, u94, u95, u96, u97, u98, u99, u100, u101, u102, u103, u104, u105, u106, u107, u108, u109, u110, u111, u112], []⟩ V := by
 have HN := Lib.hid hne
 clear hne
 obtain ⟨d64, hu64, hr64⟩ := under64
 conv in (dropS _ _) => whnf
 have hmx := h.r.mx
 have hle := h.r.le
 have hkm : (k : Int) < 1000000 := by omega
 have c0 := h.c0
 have e0 : (mkSt 5 (li, co) noB noB zEx zEx [] []).kd = 5 := rfl
 rw [e0] at c0
 clear e0
 have hs0 : sb ≠ b := by have := h.B; have := h.blt; omega
 have c1 := h.r.c1
 have f1 := h.r.hd.frozen 1
 have h1 := h.step hk
 have HE := Lib.hid h1
 clear h h1
 go_wp2_with fail
 clear c0 c1 f1
 generalize V.setCell ⟨b, 1, none⟩ (.int .i64 ((k : Int) + 1)) = V1 at *
 obtain hQ2 := HE.out
 clear HE
 have hne2 := pX_ne S.T hQ2.r.le
 have hcl2 := rexpr_any b S (4 * S.T.length + 4) _ _ 1 _ (by decide) (by decide) hQ2.r (fun _ => hne2)
 refine hcl2.mono ?_
 rintro e W2 ⟨hk2, cs2, x2, j2, b2, rfl, hX2, O2, r2⟩
 have q2 := hQ2.call hk2 r2
 have y2 := hQ2.part hX2
 clear hQ2 hk2 r2 hX2 hcl2 hne2
 have hr2 := st_run (q2.s.there (o := 5) (n := 7) (by decide)) y2.cells.1 y2.cells.2
 have hl2 := y2.cells.1
 have HE := Lib.hid (q2.expr y2)
 have HO2 := Lib.hid O2
 clear q2 O2 y2
 go_wp2_with fail
 clear hr2 hl2
 generalize W2.setCells sb 5 cs2 = V2 at *
 obtain hQ3 := HE.out
 clear HE
 have hneB : b2 = false → pB S.T f j2 ≠ none := fun e hn => by
  subst e
  refine HN.out ?_
  have e2 : pX S.T (k + 1) = some (.ok (x2, j2)) := HO2.out.good.2
  rw [e2, andT_ok, hn]
  rfl
 refine (hB _ _ _ hQ3.r hneB).mono ?_
 rintro e W3 ⟨hk3, a3, cap3, l3, j3, b3, rfl, hcap3, hX3, O3, r3⟩
 have q3 := hQ3.call hk3 r3
 have y3 := hQ3.parts hX3
 obtain ⟨v19, c19⟩ := q3.s.cell (j := 19) (by decide)
 have f19 := q3.s.frozen 19
 have HE := Lib.hid (q3.body hcap3 y3)
 have HO3 := Lib.hid O3
 clear q3 O3 y3 hQ3 hk3 hX3 r3 hneB hcap3
 obtain hQ := HE.out
 clear HE
 have hO : Out false k (andT (pX S.T (k + 1)) fun x j => andT (pB S.T f j) fun bl m => some (.ok (mkSt 5 (li, co) noB noB x zEx bl [], m))) (((mkSt 5 (li, co) noB noB zEx zEx [] []).setExpr x2).setBody l3) j3 b3 := by
  refine Out.from (k := k + 1) (HO2.out.bind (HO3.out.bind (Out.pure _ _ _)))
 obtain ⟨cs, hb, hl, h1c, hz, hD⟩ := hQ.told hO
 have HZ := Lib.hid hQ.z
 have HB := Lib.hid hb
 have HF := Lib.hid (And.intro hz hD)
 clear hQ hO hb hz hD
 go_wp2_with (first | ((with_reducible show wpList _ _ _ (Oper.mk none (.store 64 _ _) _ _ _ _ :: _) _ _); refine wpList_store_blk info64 rfl (.tmp 2) (.tmp 64) rfl w.heap.size cs zSt.toList rfl rfl HZ rfl hl h1c ?_) | ((with_reducible show wpList _ _ _ (Oper.mk _ (.load 64 _) _ _ _ _ :: _) _ _); refine wpList_load_blk hu64 hr64 info64 rfl (.tmp 3) rfl sb cs rfl HB hl ?_))
 exact end_blk hu64 hr64 info64 HF.out.1 hl rfl rfl rfl HF.out.2
set_option maxRecDepth 100000 in
set_option maxHeartbeats 8000000 in
theorem ds4 {w V : World} {b sb k : Nat} {S : Src} {li co : Int} {f : Nat} (hk : k < S.T.length) (hB : ∀ bd, DB b S f bd) (hne : (andT (pX S.T (k + 1)) fun x j => andT (pB S.T f j) fun bl m => if isT S.T m wElse = true then andT (pB S.T f (m + 1)) fun c n => some (.ok (mkSt 4 (li, co) noB noB x zEx bl c, n)) else some (.ok (mkSt 4 (li, co) noB noB x zEx bl [], m))) ≠ none) (h : Ds w b sb S V k false (mkSt 4 (li, co) noB noB zEx zEx [] [])) {u1 u4 u5 u6 u7 u8 u9 u10 u11 u12 u13 u14 u15 u16 u17 u18 u19 u20 u21 u22 u23 u24 u25 u26 u27 u28 u29 u30 u31 u32 u33 u34 u35 u36 u37 u38 u39 u40 u41 u42 u43 u44 u45 u46 u47 u48 u49 u50 u51 u52 u53 u54 u55 u56 u57 u58 u59 u60 u61 u62 u63 u64 u65 u66 u67 u68 u69 u70 u71 u72 u73 u74 u75 u76 u77 u78 u79 u80 u81 u82 u83 u84 u85 u86 u87 u88 u89 u90 u91 u92 u93 u94 u95 u96 u97 u98 u99 u100 u101 u102 u103 u104 u105 u106 u107 u108 u109 u110 u111 u112 : Value} :
  Code.wp Tryz.prog (dropS 4 (Tryz.f124.body.getD .skip)) (bodyPost Tryz.prog Tryz.f124 (DSk w b S k (andT (pX S.T (k + 1)) fun x j => andT (pB S.T f j) fun bl m => if isT S.T m wElse = true then andT (pB S.T f (m + 1)) fun c n => some (.ok (mkSt 4 (li, co) noB noB x zEx bl c, n)) else some (.ok (mkSt 4 (li, co) noB noB x zEx bl [], m))))) ⟨#[.pointer (some ⟨b, 0, none⟩), u1, .pointer (some ⟨w.heap.size, 0, none⟩), .pointer (some ⟨sb, 0, none⟩), u4, u5, u6, u7, u8, u9, u10, u11, u12, u13, u14, u15, u16, u17, u18, u19, u20, u21, u22, u23, u24, u25, u26, u27, u28, u29, u30, u31, u32, u33, u34, u35, u36, u37, u38, u39, u40, u41, u42, u43, u44, u45, u46, u47, u48, u49, u50, u51, u52, u53, u54, u55, u56, u57, u58, u59, u60, u61, u62, u63, u64, u65, u66, u67, u68, u69, u70, u71, u72, u73, u74, u75, u76, u77, u78, u79, u80, u81, u82, u83, u84, u85, u86, u87, u88, u89, u90, u91, u92, u93, u94, u95, u96, u97, u98, u99, u100, u101, u102, u103, u104, u105, u106, u107, u108, u109, u110, u111, u112], []⟩ V := by
 have HN := Lib.hid hne
 clear hne
 obtain ⟨d64, hu64, hr64⟩ := under64
 conv in (dropS _ _) => whnf
 have hmx := h.r.mx
 have hle := h.r.le
 have hkm : (k : Int) < 1000000 := by omega
 have c0 := h.c0
 have e0 : (mkSt 4 (li, co) noB noB zEx zEx [] []).kd = 4 := rfl
 rw [e0] at c0
 clear e0
 have hs0 : sb ≠ b := by have := h.B; have := h.blt; omega
 have c1 := h.r.c1
 have f1 := h.r.hd.frozen 1
 have h1 := h.step hk
 have HE := Lib.hid h1
 clear h h1
 go_wp2_with fail
 clear c0 c1 f1
 generalize V.setCell ⟨b, 1, none⟩ (.int .i64 ((k : Int) + 1)) = V1 at *
 obtain hQ2 := HE.out
 clear HE
 have hne2 := pX_ne S.T hQ2.r.le
 have hcl2 := rexpr_any b S (4 * S.T.length + 4) _ _ 1 _ (by decide) (by decide) hQ2.r (fun _ => hne2)
 refine hcl2.mono ?_
 rintro e W2 ⟨hk2, cs2, x2, j2, b2, rfl, hX2, O2, r2⟩
 have q2 := hQ2.call hk2 r2
 have y2 := hQ2.part hX2
 clear hQ2 hk2 r2 hX2 hcl2 hne2
 have hr2 := st_run (q2.s.there (o := 5) (n := 7) (by decide)) y2.cells.1 y2.cells.2
 have hl2 := y2.cells.1
 have HE := Lib.hid (q2.expr y2)
 have HO2 := Lib.hid O2
 clear q2 O2 y2
 go_wp2_with fail
 clear hr2 hl2
 generalize W2.setCells sb 5 cs2 = V2 at *
 obtain hQ3 := HE.out
 clear HE
 have hneB : b2 = false → pB S.T f j2 ≠ none := fun e hn => by
  subst e
  refine HN.out ?_
  have e2 : pX S.T (k + 1) = some (.ok (x2, j2)) := HO2.out.good.2
  rw [e2, andT_ok, hn]
  rfl
 refine (hB _ _ _ hQ3.r hneB).mono ?_
 rintro e W3 ⟨hk3, a3, cap3, l3, j3, b3, rfl, hcap3, hX3, O3, r3⟩
 have q3 := hQ3.call hk3 r3
 have y3 := hQ3.parts hX3
 obtain ⟨v19, c19⟩ := q3.s.cell (j := 19) (by decide)
 have f19 := q3.s.frozen 19
 have HE := Lib.hid (q3.body hcap3 y3)
 have HO3 := Lib.hid O3
 clear q3 O3 y3 hQ3 hk3 hX3 r3 hneB hcap3
 go_wp2_with fail
 clear c19 f19
 generalize W3.setCell ⟨sb, 19, none⟩ (.slice a3 l3.length cap3) = V3 at *
 obtain hQ4 := HE.out
 clear HE
 refine (rtake_any hQ4.r wElse).mono ?_
 rintro e W4 ⟨hk4, rfl, r4⟩
 obtain ⟨m, hm⟩ : ∃ m, (!b3 && isT S.T j3 wElse) = m := ⟨_, rfl⟩
 rw [hm] at r4 ⊢
 have q4 := hQ4.call hk4 r4
 have HM := Lib.hid hm
 clear hQ4 hk4 r4 hm
 cases m
 ·simp only [Bool.false_eq_true, if_false] at q4
  have HE := Lib.hid q4
  clear q4
  obtain hQ := HE.out
  clear HE
  have hO : Out false k (andT (pX S.T (k + 1)) fun x j => andT (pB S.T f j) fun bl m => if isT S.T m wElse = true then andT (pB S.T f (m + 1)) fun c n => some (.ok (mkSt 4 (li, co) noB noB x zEx bl c, n)) else some (.ok (mkSt 4 (li, co) noB noB x zEx bl [], m))) (((mkSt 4 (li, co) noB noB zEx zEx [] []).setExpr x2).setBody l3) j3 b3 := by
   refine Out.from (k := k + 1) (HO2.out.bind (HO3.out.bind (Out.iteN HM.out (Out.pure _ _ _))))
  obtain ⟨cs, hb, hl, h1c, hz, hD⟩ := hQ.told hO
  have HZ := Lib.hid hQ.z
  have HB := Lib.hid hb
  have HF := Lib.hid (And.intro hz hD)
  clear hQ hO hb hz hD
  go_wp2_with (first | ((with_reducible show wpList _ _ _ (Oper.mk none (.store 64 _ _) _ _ _ _ :: _) _ _); refine wpList_store_blk info64 rfl (.tmp 2) (.tmp 64) rfl w.heap.size cs zSt.toList rfl rfl HZ rfl hl h1c ?_) | ((with_reducible show wpList _ _ _ (Oper.mk _ (.load 64 _) _ _ _ _ :: _) _ _); refine wpList_load_blk hu64 hr64 info64 rfl (.tmp 3) rfl sb cs rfl HB hl ?_))
  exact end_blk hu64 hr64 info64 HF.out.1 hl rfl rfl rfl HF.out.2
 ·simp only [if_true] at q4
  have HE := Lib.hid q4
  clear q4
  go_wp2_with fail
  obtain hQ5 := HE.out
  clear HE
  have hneB : b3 = false → pB S.T f (j3 + 1) ≠ none := fun e hn => by
   subst e
   obtain ⟨e2, h3⟩ := HO3.out.good
   subst e2
   refine HN.out ?_
   have e2 : pX S.T (k + 1) = some (.ok (x2, j2)) := HO2.out.good.2
   rw [e2, andT_ok, h3, andT_ok, if_pos (by simpa using HM.out), hn]
   rfl
  refine (hB _ _ _ hQ5.r hneB).mono ?_
  rintro e W5 ⟨hk5, a5, cap5, l5, j5, b5, rfl, hcap5, hX5, O5, r5⟩
  have q5 := hQ5.call hk5 r5
  have y5 := hQ5.parts hX5
  obtain ⟨v20, c20⟩ := q5.s.cell (j := 20) (by decide)
  have f20 := q5.s.frozen 20
  have HE := Lib.hid (q5.els hcap5 y5)
  have HO5 := Lib.hid O5
  clear q5 O5 y5 hQ5 hk5 hX5 r5 hneB hcap5
  obtain hQ := HE.out
  clear HE
  have hO : Out false k (andT (pX S.T (k + 1)) fun x j => andT (pB S.T f j) fun bl m => if isT S.T m wElse = true then andT (pB S.T f (m + 1)) fun c n => some (.ok (mkSt 4 (li, co) noB noB x zEx bl c, n)) else some (.ok (mkSt 4 (li, co) noB noB x zEx bl [], m))) ((((mkSt 4 (li, co) noB noB zEx zEx [] []).setExpr x2).setBody l3).setEls l5) j5 b5 := by
   refine Out.from (k := k + 1) (HO2.out.bind (HO3.out.bind (Out.iteP HM.out (HO5.out.bind (Out.pure _ _ _)))))
  obtain ⟨cs, hb, hl, h1c, hz, hD⟩ := hQ.told hO
  have HZ := Lib.hid hQ.z
  have HB := Lib.hid hb
  have HF := Lib.hid (And.intro hz hD)
  clear hQ hO hb hz hD
  go_wp2_with (first | ((with_reducible show wpList _ _ _ (Oper.mk none (.store 64 _ _) _ _ _ _ :: _) _ _); refine wpList_store_blk info64 rfl (.tmp 2) (.tmp 64) rfl w.heap.size cs zSt.toList rfl rfl HZ rfl hl h1c ?_) | ((with_reducible show wpList _ _ _ (Oper.mk _ (.load 64 _) _ _ _ _ :: _) _ _); refine wpList_load_blk hu64 hr64 info64 rfl (.tmp 3) rfl sb cs rfl HB hl ?_))
  exact end_blk hu64 hr64 info64 HF.out.1 hl rfl rfl rfl HF.out.2
end Go.Proofs.YtjmlmelcppbefaaGreatDoor
