/- What the syntax texts share, part 37. No condition. -/
import Derived.Test.YtjmlmelcppbefaaGreatDoorT27
import Derived.Test.YtjmlmelcppbefaaGreatDoorT36
set_option maxRecDepth 100000
namespace Go.Proofs.YtjmlmelcppbefaaGreatDoor
open Go.RowKit Go.Maps
def deC (k li co : Int) (s : ByteArray) (n : Int) (v : Value) : List Value := [.int .i64 k, .int .i64 li, .int .i64 co, .string s, .int .i64 n, v]
def deV : List Value := deW.map .string
def nilS : Value := .slice none 0 0
def DDk (w : World) (b : Nat) (S : Src) (k : Nat) (R : PR De) (e : Ending) (w' : World) : Prop := Kp w w' b b ∧ ∃ (cs : List Value) (x : De) (j : Nat) (bad' : Bool), e = .returned (.agg cs.toArray) ∧ DeL (w.heap.size ≤ ·) w' cs x ∧ Out false k R x j bad' ∧ Dr w' b S j bad'
structure Dd (w : World) (b sb : Nat) (S : Src) (V : World) (j : Nat) (bd : Bool) (cs : List Value) : Prop where
 s : Blk V sb 55 cs
 r : Dr V b S j bd
 p : Kp w V b b
 z : Blk V w.heap.size 55 (deC 0 0 0 ⟨#[]⟩ 0 nilS)
 o : ∃ k0 b0, Dr w b S k0 b0
 B : w.heap.size + 1 ≤ sb
section
variable {w V V' : World} {b sb j j' : Nat} {S : Src} {bd bd' : Bool} {cs : List Value}
theorem Dd.blt (h : Dd w b sb S V j bd cs) : b < w.heap.size := by
 obtain ⟨k0, b0, h0⟩ := h.o
 exact h0.lt
theorem Dd.call (h : Dd w b sb S V j bd cs) (hk : Kp V V' b b) (hr : Dr V' b S j' bd') : Dd w b sb S V' j' bd' cs := by
 have := h.blt
 have := h.B
 exact ⟨h.s.kp hk (by omega) (by omega), hr, h.p.trans hk, h.z.kp hk (by omega) (by omega), h.o, h.B⟩
theorem Dd.set (h : Dd w b sb S V j bd cs) (n : Nat) (u : Value) : Dd w b sb S (V.setCell ⟨sb, n, none⟩ u) j bd (cs.set n u) := by
 obtain ⟨k0, b0, h0⟩ := h.o
 have h1 := h.blt
 have h2 := h.B
 have hw : ∀ c, c ≠ sb → (V.setCell ⟨sb, n, none⟩ u).heap[c]? = V.heap[c]? := fun c hc => Below.heap_setCell V ⟨sb, n, none⟩ u c hc
 have hp := h.p.setNew (by omega) n u (r := sb)
 exact ⟨h.s.set1 n u, h0.fin h.r hp (hw b (by omega)), hp, h.z.of (hw _ (by omega)), h.o, h.B⟩
theorem Dd.step (h : Dd w b sb S V j bd cs) (hj : j < S.T.length) : Dd w b sb S (V.setCell ⟨b, 1, none⟩ (.int .i64 ((j : Int) + 1))) (j + 1) bd cs :=
 h.call ((Kp.refl V b b).setA 1 _) (h.r.step hj)
theorem Dd.fail (h : Dd w b sb S V j bd cs) : Dd w b sb S (V.setCell ⟨b, 2, none⟩ (.bool true)) j true cs :=
 h.call ((Kp.refl V b b).setA 2 _) h.r.fail
theorem Dd.told {k0 : Nat} {R : PR De} {k li co n : Int} {s : ByteArray} {a : Option Addr} {l : List St} {cap : Nat} (h : Dd w b sb S V j bd (deC k li co s n (.slice a l.length cap))) (hr : Roomy l.length cap) (hz : StsL (fun c => w.heap.size + 1 ≤ c) V a 0 l)
  (hO : Out false k0 R (mkDe k (li, co) s n l) j bd) :
  ∃ cs : List Value, Blk V sb 55 cs ∧ cs.length = 6 ∧ (∀ v ∈ cs, v.oneCell' = true) ∧ Blk (V.setCells w.heap.size 0 cs) w.heap.size 55 cs ∧ DDk w b S k0 R (.returned (.agg cs.toArray)) (V.setCells w.heap.size 0 cs) := by
 obtain ⟨k1, b1, h0⟩ := h.o
 have h1 := h.blt
 obtain ⟨cs, hcs⟩ : ∃ cs, deC k li co s n (.slice a l.length cap) = cs := ⟨_, rfl⟩
 have hs := h.s
 rw [hcs] at hs
 have hl : cs.length = 6 := by rw [← hcs]; rfl
 have hKV := Kp.setCellsNew (Nat.le_refl w.heap.size) cs 0 h.p
 refine ⟨cs, hs, hl, ?_, h.z.putAll (by rw [hl]; rfl), hKV, cs, _, j, bd, rfl, ?_, hO, h0.fin h.r hKV (heap_setCells (by omega) cs 0 V)⟩
 ·rw [← hcs]
  unfold deC
  intro v hv
  simp only [List.mem_cons, List.not_mem_nil, or_false] at hv
  rcases hv with rfl | rfl | rfl | rfl | rfl | rfl <;> rfl
 ·refine ⟨a, cap, by rw [← hcs]; rfl, hr, ?_⟩
  refine StsL.weak (fun c hc => (by have : w.heap.size + 1 ≤ c := hc; omega : w.heap.size ≤ c)) (StsL.keep (fun c o v hc hv => ?_) hz)
  rw [← hv]
  have hc2 : w.heap.size + 1 ≤ c := hc
  simp [World.cell?, heap_setCells (w := V) (vs := cs) (o := 0) (show c ≠ w.heap.size by omega)]
theorem Dd.told0 {k0 : Nat} {R : PR De} {k li co n : Int} {s : ByteArray} (h : Dd w b sb S V j bd (deC k li co s n nilS)) (hO : Out false k0 R (mkDe k (li, co) s n []) j bd) :
  ∃ cs : List Value, Blk V sb 55 cs ∧ cs.length = 6 ∧ (∀ v ∈ cs, v.oneCell' = true) ∧ Blk (V.setCells w.heap.size 0 cs) w.heap.size 55 cs ∧ DDk w b S k0 R (.returned (.agg cs.toArray)) (V.setCells w.heap.size 0 cs) :=
 Dd.told (l := []) h ⟨Nat.le_refl _, by decide⟩ (by unfold StsL; trivial) hO
end
theorem Out.neg {T : List Wd} {bad b1 b2 : Bool} {m j jf : Nat} {x y li co : Int} {s : ByteArray} (hy : b1 = false → y = -x) (h : Out bad m (pNumb T m) x j b1) (h2 : Out b1 j (want T sSemi j) () jf b2) :
  Out bad m (andT (pNumb T m) fun n q => andT (want T sSemi q) fun _ t => some (.ok (mkDe 1 (li, co) s (-n) [], t))) (mkDe 1 (li, co) s y []) jf b2 := by
 refine h.bind (R2 := fun n q => andT (want T sSemi q) fun _ t => some (.ok (mkDe 1 (li, co) s (-n) [], t))) ?_
 cases b1
 ·rw [hy rfl]
  exact h2.bind (Out.pure _ _ _)
 ·obtain ⟨rfl, rfl⟩ := h2.bad
  exact .inl ⟨rfl, rfl, rfl⟩
theorem pNumb_val {T : List Wd} {m j : Nat} {x : Int} (h : pNumb T m = some (.ok (x, j))) : x = (T.getD m default).num := by
 unfold pNumb at h
 split at h
 ·cases h
  rfl
 ·cases h
set_option maxHeartbeats 8000000 in
theorem dd0 {w V : World} {b sb k : Nat} {S : Src} {li co : Int}  (h : Dd w b sb S V k false (deC 0 li co ⟨#[]⟩ 0 nilS)) {u1 u4 u5 u6 u7 u8 u9 u10 u11 u12 u13 u14 u15 u16 u17 u18 u19 u20 u21 u22 u23 u24 u25 u26 u27 u28 u29 u30 u31 u32 u33 u34 u35 u36 u37 u38 u39 u40 u41 u42 u43 u44 u45 u46 u47 u48 u49 u50 u51 u52 u53 u54 u55 u56 u57 u58 u59 u60 u61 u62 u63 u64 u65 u66 u67 u68 u69 u70 u71 u72 : Value} :
  Code.wp Tryz.prog (dropS 4 (Tryz.f40.body.getD .skip)) (bodyPost Tryz.prog Tryz.f40 (DDk w b S k (some (.error k)))) ⟨#[.pointer (some ⟨b, 0, none⟩), u1, .pointer (some ⟨w.heap.size, 0, none⟩), .pointer (some ⟨sb, 0, none⟩), u4, u5, u6, u7, u8, u9, u10, u11, u12, u13, u14, u15, u16, u17, u18, u19, u20, u21, u22, u23, u24, u25, u26, u27, u28, u29, u30, u31, u32, u33, u34, u35, u36, u37, u38, u39, u40, u41, u42, u43, u44, u45, u46, u47, u48, u49, u50, u51, u52, u53, u54, u55, u56, u57, u58, u59, u60, u61, u62, u63, u64, u65, u66, u67, u68, u69, u70, u71, u72], []⟩ V := by
 obtain ⟨d55, hu55, hr55⟩ := under55
 conv in (dropS _ _) => whnf
 have hmx := h.r.mx
 have hle := h.r.le
 have c0 : V.cell? ⟨sb, 0, none⟩ = some (.int .i64 0) := h.s.cell 0
 have hs0 : sb ≠ b := by have := h.B; have := h.blt; omega
 have c2 := h.r.c2
 have f2 := h.r.hd.frozen 2
 have HE := Lib.hid h.fail
 clear h
 obtain hQ := HE.out
 clear HE
 have hO : Out false k (some (.error k) : PR De) (mkDe 0 (li, co) ⟨#[]⟩ 0 []) k true := .inr (.inr ⟨rfl, rfl, rfl⟩)
 obtain ⟨cs, hb, hl, h1c, hz, hD⟩ := hQ.told0 hO
 have HZ := Lib.hid hQ.z
 have HB := Lib.hid hb
 have HF := Lib.hid (And.intro hz hD)
 clear hQ hO hb hz hD
 go_wp2_with (first | ((with_reducible show wpList _ _ _ (Oper.mk none (.store 55 _ _) _ _ _ _ :: _) _ _); refine wpList_store_blk info55 rfl (.tmp 2) (.tmp 31) rfl w.heap.size cs (deC 0 0 0 ⟨#[]⟩ 0 nilS) rfl rfl HZ rfl hl h1c ?_) | ((with_reducible show wpList _ _ _ (Oper.mk _ (.load 55 _) _ _ _ _ :: _) _ _); refine wpList_load_blk hu55 hr55 info55 rfl (.tmp 3) rfl sb cs rfl HB hl ?_))
 exact end_blk hu55 hr55 info55 HF.out.1 hl rfl rfl rfl HF.out.2
set_option maxHeartbeats 8000000 in
theorem dd3 {w V : World} {b sb k : Nat} {S : Src} {li co : Int} (hk : k < S.T.length) (h : Dd w b sb S V k false (deC 3 li co ⟨#[]⟩ 0 nilS)) {u1 u4 u5 u6 u7 u8 u9 u10 u11 u12 u13 u14 u15 u16 u17 u18 u19 u20 u21 u22 u23 u24 u25 u26 u27 u28 u29 u30 u31 u32 u33 u34 u35 u36 u37 u38 u39 u40 u41 u42 u43 u44 u45 u46 u47 u48 u49 u50 u51 u52 u53 u54 u55 u56 u57 u58 u59 u60 u61 u62 u63 u64 u65 u66 u67 u68 u69 u70 u71 u72 : Value} :
  Code.wp Tryz.prog (dropS 4 (Tryz.f40.body.getD .skip)) (bodyPost Tryz.prog Tryz.f40 (DDk w b S k (andT (pName S.T (k + 1)) fun s j => andT (want S.T sSemi j) fun _ t => some (.ok (mkDe 3 (li, co) s 0 [], t))))) ⟨#[.pointer (some ⟨b, 0, none⟩), u1, .pointer (some ⟨w.heap.size, 0, none⟩), .pointer (some ⟨sb, 0, none⟩), u4, u5, u6, u7, u8, u9, u10, u11, u12, u13, u14, u15, u16, u17, u18, u19, u20, u21, u22, u23, u24, u25, u26, u27, u28, u29, u30, u31, u32, u33, u34, u35, u36, u37, u38, u39, u40, u41, u42, u43, u44, u45, u46, u47, u48, u49, u50, u51, u52, u53, u54, u55, u56, u57, u58, u59, u60, u61, u62, u63, u64, u65, u66, u67, u68, u69, u70, u71, u72], []⟩ V := by
 obtain ⟨d55, hu55, hr55⟩ := under55
 conv in (dropS _ _) => whnf
 have hmx := h.r.mx
 have hle := h.r.le
 have c0 : V.cell? ⟨sb, 0, none⟩ = some (.int .i64 3) := h.s.cell 0
 have hs0 : sb ≠ b := by have := h.B; have := h.blt; omega
 have hkm : (k : Int) < 1000000 := by omega
 have c1 := h.r.c1
 have f1 := h.r.hd.frozen 1
 have h1 := h.step hk
 have HE := Lib.hid h1
 clear h h1
 go_wp2_with fail
 clear c0 c1 f1
 generalize V.setCell ⟨b, 1, none⟩ (.int .i64 ((k : Int) + 1)) = V1 at *
 obtain hQ2 := HE.out
 clear HE
 refine (rname_rd hQ2.r).mono ?_
 rintro e W2 ⟨hk2, x2, j2, b2, rfl, O2, r2⟩
 have q2 := hQ2.call hk2 r2
 clear hQ2 hk2 r2
 have c3 := q2.s.cell 3
 have f3 := q2.s.frozen 3
 have c0 : W2.cell? ⟨sb, 0, none⟩ = some (.int .i64 3) := q2.s.cell 0
 have HE := Lib.hid (show Dd w b sb S (W2.setCell ⟨sb, 3, none⟩ (.string x2)) j2 b2 (deC 3 li co x2 0 nilS) from q2.set 3 (.string x2))
 have HO2 := Lib.hid O2
 clear q2 O2
 unfold deC nilS at c3
 simp only [List.getElem?_cons_succ, List.getElem?_cons_zero] at c3
 go_wp2_with fail
 clear c0 c3 f3
 generalize W2.setCell ⟨sb, 3, none⟩ (.string x2) = V2 at *
 obtain hQ3 := HE.out
 clear HE
 refine (rmust_any hQ3.r sSemi).mono ?_
 rintro e W3 ⟨hk3, rfl, j3, b3, O3, r3⟩
 have HE := Lib.hid (hQ3.call hk3 r3)
 have HO3 := Lib.hid O3
 clear hQ3 hk3 r3 O3
 obtain hQ := HE.out
 clear HE
 have hO : Out false k (andT (pName S.T (k + 1)) fun s j => andT (want S.T sSemi j) fun _ t => some (.ok (mkDe 3 (li, co) s 0 [], t))) (mkDe 3 (li, co) x2 0 []) j3 b3 := Out.from (k := k + 1) (HO2.out.bind (HO3.out.bind (Out.pure _ _ _)))
 obtain ⟨cs, hb, hl, h1c, hz, hD⟩ := hQ.told0 hO
 have HZ := Lib.hid hQ.z
 have HB := Lib.hid hb
 have HF := Lib.hid (And.intro hz hD)
 clear hQ hO hb hz hD
 go_wp2_with (first | ((with_reducible show wpList _ _ _ (Oper.mk none (.store 55 _ _) _ _ _ _ :: _) _ _); refine wpList_store_blk info55 rfl (.tmp 2) (.tmp 72) rfl w.heap.size cs (deC 0 0 0 ⟨#[]⟩ 0 nilS) rfl rfl HZ rfl hl h1c ?_) | ((with_reducible show wpList _ _ _ (Oper.mk _ (.load 55 _) _ _ _ _ :: _) _ _); refine wpList_load_blk hu55 hr55 info55 rfl (.tmp 3) rfl sb cs rfl HB hl ?_))
 exact end_blk hu55 hr55 info55 HF.out.1 hl rfl rfl rfl HF.out.2
set_option maxHeartbeats 8000000 in
theorem dd4 {w V : World} {b sb k : Nat} {S : Src} {li co : Int} (hk : k < S.T.length) (h : Dd w b sb S V k false (deC 4 li co ⟨#[]⟩ 0 nilS)) {u1 u4 u5 u6 u7 u8 u9 u10 u11 u12 u13 u14 u15 u16 u17 u18 u19 u20 u21 u22 u23 u24 u25 u26 u27 u28 u29 u30 u31 u32 u33 u34 u35 u36 u37 u38 u39 u40 u41 u42 u43 u44 u45 u46 u47 u48 u49 u50 u51 u52 u53 u54 u55 u56 u57 u58 u59 u60 u61 u62 u63 u64 u65 u66 u67 u68 u69 u70 u71 u72 : Value} :
  Code.wp Tryz.prog (dropS 4 (Tryz.f40.body.getD .skip)) (bodyPost Tryz.prog Tryz.f40 (DDk w b S k (andT (pName S.T (k + 1)) fun s j => andT (want S.T sSemi j) fun _ t => some (.ok (mkDe 4 (li, co) s 0 [], t))))) ⟨#[.pointer (some ⟨b, 0, none⟩), u1, .pointer (some ⟨w.heap.size, 0, none⟩), .pointer (some ⟨sb, 0, none⟩), u4, u5, u6, u7, u8, u9, u10, u11, u12, u13, u14, u15, u16, u17, u18, u19, u20, u21, u22, u23, u24, u25, u26, u27, u28, u29, u30, u31, u32, u33, u34, u35, u36, u37, u38, u39, u40, u41, u42, u43, u44, u45, u46, u47, u48, u49, u50, u51, u52, u53, u54, u55, u56, u57, u58, u59, u60, u61, u62, u63, u64, u65, u66, u67, u68, u69, u70, u71, u72], []⟩ V := by
 obtain ⟨d55, hu55, hr55⟩ := under55
 conv in (dropS _ _) => whnf
 have hmx := h.r.mx
 have hle := h.r.le
 have c0 : V.cell? ⟨sb, 0, none⟩ = some (.int .i64 4) := h.s.cell 0
 have hs0 : sb ≠ b := by have := h.B; have := h.blt; omega
 have hkm : (k : Int) < 1000000 := by omega
 have c1 := h.r.c1
 have f1 := h.r.hd.frozen 1
 have h1 := h.step hk
 have HE := Lib.hid h1
 clear h h1
 go_wp2_with fail
 clear c0 c1 f1
 generalize V.setCell ⟨b, 1, none⟩ (.int .i64 ((k : Int) + 1)) = V1 at *
 obtain hQ2 := HE.out
 clear HE
 refine (rname_rd hQ2.r).mono ?_
 rintro e W2 ⟨hk2, x2, j2, b2, rfl, O2, r2⟩
 have q2 := hQ2.call hk2 r2
 clear hQ2 hk2 r2
 have c3 := q2.s.cell 3
 have f3 := q2.s.frozen 3
 have c0 : W2.cell? ⟨sb, 0, none⟩ = some (.int .i64 4) := q2.s.cell 0
 have HE := Lib.hid (show Dd w b sb S (W2.setCell ⟨sb, 3, none⟩ (.string x2)) j2 b2 (deC 4 li co x2 0 nilS) from q2.set 3 (.string x2))
 have HO2 := Lib.hid O2
 clear q2 O2
 unfold deC nilS at c3
 simp only [List.getElem?_cons_succ, List.getElem?_cons_zero] at c3
 go_wp2_with fail
 clear c0 c3 f3
 generalize W2.setCell ⟨sb, 3, none⟩ (.string x2) = V2 at *
 obtain hQ3 := HE.out
 clear HE
 refine (rmust_any hQ3.r sSemi).mono ?_
 rintro e W3 ⟨hk3, rfl, j3, b3, O3, r3⟩
 have HE := Lib.hid (hQ3.call hk3 r3)
 have HO3 := Lib.hid O3
 clear hQ3 hk3 r3 O3
 obtain hQ := HE.out
 clear HE
 have hO : Out false k (andT (pName S.T (k + 1)) fun s j => andT (want S.T sSemi j) fun _ t => some (.ok (mkDe 4 (li, co) s 0 [], t))) (mkDe 4 (li, co) x2 0 []) j3 b3 := Out.from (k := k + 1) (HO2.out.bind (HO3.out.bind (Out.pure _ _ _)))
 obtain ⟨cs, hb, hl, h1c, hz, hD⟩ := hQ.told0 hO
 have HZ := Lib.hid hQ.z
 have HB := Lib.hid hb
 have HF := Lib.hid (And.intro hz hD)
 clear hQ hO hb hz hD
 go_wp2_with (first | ((with_reducible show wpList _ _ _ (Oper.mk none (.store 55 _ _) _ _ _ _ :: _) _ _); refine wpList_store_blk info55 rfl (.tmp 2) (.tmp 72) rfl w.heap.size cs (deC 0 0 0 ⟨#[]⟩ 0 nilS) rfl rfl HZ rfl hl h1c ?_) | ((with_reducible show wpList _ _ _ (Oper.mk _ (.load 55 _) _ _ _ _ :: _) _ _); refine wpList_load_blk hu55 hr55 info55 rfl (.tmp 3) rfl sb cs rfl HB hl ?_))
 exact end_blk hu55 hr55 info55 HF.out.1 hl rfl rfl rfl HF.out.2
set_option maxHeartbeats 8000000 in
theorem dd2 {w V : World} {b sb k : Nat} {S : Src} {li co : Int} (hk : k < S.T.length) (h : Dd w b sb S V k false (deC 2 li co ⟨#[]⟩ 0 nilS)) {u1 u4 u5 u6 u7 u8 u9 u10 u11 u12 u13 u14 u15 u16 u17 u18 u19 u20 u21 u22 u23 u24 u25 u26 u27 u28 u29 u30 u31 u32 u33 u34 u35 u36 u37 u38 u39 u40 u41 u42 u43 u44 u45 u46 u47 u48 u49 u50 u51 u52 u53 u54 u55 u56 u57 u58 u59 u60 u61 u62 u63 u64 u65 u66 u67 u68 u69 u70 u71 u72 : Value} :
  Code.wp Tryz.prog (dropS 4 (Tryz.f40.body.getD .skip)) (bodyPost Tryz.prog Tryz.f40 (DDk w b S k (andT (pName S.T (k + 1)) fun s j => andT (pNumb S.T j) fun n q => andT (want S.T sSemi q) fun _ t => some (.ok (mkDe 2 (li, co) s n [], t))))) ⟨#[.pointer (some ⟨b, 0, none⟩), u1, .pointer (some ⟨w.heap.size, 0, none⟩), .pointer (some ⟨sb, 0, none⟩), u4, u5, u6, u7, u8, u9, u10, u11, u12, u13, u14, u15, u16, u17, u18, u19, u20, u21, u22, u23, u24, u25, u26, u27, u28, u29, u30, u31, u32, u33, u34, u35, u36, u37, u38, u39, u40, u41, u42, u43, u44, u45, u46, u47, u48, u49, u50, u51, u52, u53, u54, u55, u56, u57, u58, u59, u60, u61, u62, u63, u64, u65, u66, u67, u68, u69, u70, u71, u72], []⟩ V := by
 obtain ⟨d55, hu55, hr55⟩ := under55
 conv in (dropS _ _) => whnf
 have hmx := h.r.mx
 have hle := h.r.le
 have c0 : V.cell? ⟨sb, 0, none⟩ = some (.int .i64 2) := h.s.cell 0
 have hs0 : sb ≠ b := by have := h.B; have := h.blt; omega
 have hkm : (k : Int) < 1000000 := by omega
 have c1 := h.r.c1
 have f1 := h.r.hd.frozen 1
 have h1 := h.step hk
 have HE := Lib.hid h1
 clear h h1
 go_wp2_with fail
 clear c0 c1 f1
 generalize V.setCell ⟨b, 1, none⟩ (.int .i64 ((k : Int) + 1)) = V1 at *
 obtain hQ2 := HE.out
 clear HE
 refine (rname_rd hQ2.r).mono ?_
 rintro e W2 ⟨hk2, x2, j2, b2, rfl, O2, r2⟩
 have q2 := hQ2.call hk2 r2
 clear hQ2 hk2 r2
 have c3 := q2.s.cell 3
 have f3 := q2.s.frozen 3
 have c0 : W2.cell? ⟨sb, 0, none⟩ = some (.int .i64 2) := q2.s.cell 0
 have HE := Lib.hid (show Dd w b sb S (W2.setCell ⟨sb, 3, none⟩ (.string x2)) j2 b2 (deC 2 li co x2 0 nilS) from q2.set 3 (.string x2))
 have HO2 := Lib.hid O2
 clear q2 O2
 unfold deC nilS at c3
 simp only [List.getElem?_cons_succ, List.getElem?_cons_zero] at c3
 go_wp2_with fail
 clear c0 c3 f3
 generalize W2.setCell ⟨sb, 3, none⟩ (.string x2) = V2 at *
 obtain hQ3 := HE.out
 clear HE
 refine (rnumb_rd hQ3.r).mono ?_
 rintro e W3 ⟨hk3, x3, j3, b3, rfl, O3, r3⟩
 have q3 := hQ3.call hk3 r3
 clear hQ3 hk3 r3
 have c4 := q3.s.cell 4
 have f4 := q3.s.frozen 4
 unfold deC nilS at c4
 simp only [List.getElem?_cons_succ, List.getElem?_cons_zero] at c4
 have HE := Lib.hid (show Dd w b sb S (W3.setCell ⟨sb, 4, none⟩ (.int .i64 x3)) j3 b3 (deC 2 li co x2 x3 nilS) from q3.set 4 (.int .i64 x3))
 have HO3 := Lib.hid O3
 clear q3 O3
 go_wp2_with fail
 clear c4 f4
 generalize W3.setCell ⟨sb, 4, none⟩ (.int .i64 x3) = V3 at *
 obtain hQ4 := HE.out
 clear HE
 refine (rmust_any hQ4.r sSemi).mono ?_
 rintro e W4 ⟨hk4, rfl, j4, b4, O4, r4⟩
 have HE := Lib.hid (hQ4.call hk4 r4)
 have HO4 := Lib.hid O4
 clear hQ4 hk4 r4 O4
 obtain hQ := HE.out
 clear HE
 have hO : Out false k (andT (pName S.T (k + 1)) fun s j => andT (pNumb S.T j) fun n q => andT (want S.T sSemi q) fun _ t => some (.ok (mkDe 2 (li, co) s n [], t))) (mkDe 2 (li, co) x2 x3 []) j4 b4 := Out.from (k := k + 1) (HO2.out.bind (HO3.out.bind (HO4.out.bind (Out.pure _ _ _))))
 obtain ⟨cs, hb, hl, h1c, hz, hD⟩ := hQ.told0 hO
 have HZ := Lib.hid hQ.z
 have HB := Lib.hid hb
 have HF := Lib.hid (And.intro hz hD)
 clear hQ hO hb hz hD
 go_wp2_with (first | ((with_reducible show wpList _ _ _ (Oper.mk none (.store 55 _ _) _ _ _ _ :: _) _ _); refine wpList_store_blk info55 rfl (.tmp 2) (.tmp 72) rfl w.heap.size cs (deC 0 0 0 ⟨#[]⟩ 0 nilS) rfl rfl HZ rfl hl h1c ?_) | ((with_reducible show wpList _ _ _ (Oper.mk _ (.load 55 _) _ _ _ _ :: _) _ _); refine wpList_load_blk hu55 hr55 info55 rfl (.tmp 3) rfl sb cs rfl HB hl ?_))
 exact end_blk hu55 hr55 info55 HF.out.1 hl rfl rfl rfl HF.out.2
set_option maxHeartbeats 8000000 in
theorem dd5 {w V : World} {b sb k : Nat} {S : Src} {li co : Int} (hk : k < S.T.length) (h : Dd w b sb S V k false (deC 5 li co ⟨#[]⟩ 0 nilS)) {u1 u4 u5 u6 u7 u8 u9 u10 u11 u12 u13 u14 u15 u16 u17 u18 u19 u20 u21 u22 u23 u24 u25 u26 u27 u28 u29 u30 u31 u32 u33 u34 u35 u36 u37 u38 u39 u40 u41 u42 u43 u44 u45 u46 u47 u48 u49 u50 u51 u52 u53 u54 u55 u56 u57 u58 u59 u60 u61 u62 u63 u64 u65 u66 u67 u68 u69 u70 u71 u72 : Value} :
  Code.wp Tryz.prog (dropS 4 (Tryz.f40.body.getD .skip)) (bodyPost Tryz.prog Tryz.f40 (DDk w b S k (andT (pName S.T (k + 1)) fun s j => andT (pNumb S.T j) fun n q => andT (want S.T sSemi q) fun _ t => some (.ok (mkDe 5 (li, co) s n [], t))))) ⟨#[.pointer (some ⟨b, 0, none⟩), u1, .pointer (some ⟨w.heap.size, 0, none⟩), .pointer (some ⟨sb, 0, none⟩), u4, u5, u6, u7, u8, u9, u10, u11, u12, u13, u14, u15, u16, u17, u18, u19, u20, u21, u22, u23, u24, u25, u26, u27, u28, u29, u30, u31, u32, u33, u34, u35, u36, u37, u38, u39, u40, u41, u42, u43, u44, u45, u46, u47, u48, u49, u50, u51, u52, u53, u54, u55, u56, u57, u58, u59, u60, u61, u62, u63, u64, u65, u66, u67, u68, u69, u70, u71, u72], []⟩ V := by
 obtain ⟨d55, hu55, hr55⟩ := under55
 conv in (dropS _ _) => whnf
 have hmx := h.r.mx
 have hle := h.r.le
 have c0 : V.cell? ⟨sb, 0, none⟩ = some (.int .i64 5) := h.s.cell 0
 have hs0 : sb ≠ b := by have := h.B; have := h.blt; omega
 have hkm : (k : Int) < 1000000 := by omega
 have c1 := h.r.c1
 have f1 := h.r.hd.frozen 1
 have h1 := h.step hk
 have HE := Lib.hid h1
 clear h h1
 go_wp2_with fail
 clear c0 c1 f1
 generalize V.setCell ⟨b, 1, none⟩ (.int .i64 ((k : Int) + 1)) = V1 at *
 obtain hQ2 := HE.out
 clear HE
 refine (rname_rd hQ2.r).mono ?_
 rintro e W2 ⟨hk2, x2, j2, b2, rfl, O2, r2⟩
 have q2 := hQ2.call hk2 r2
 clear hQ2 hk2 r2
 have c3 := q2.s.cell 3
 have f3 := q2.s.frozen 3
 have c0 : W2.cell? ⟨sb, 0, none⟩ = some (.int .i64 5) := q2.s.cell 0
 have HE := Lib.hid (show Dd w b sb S (W2.setCell ⟨sb, 3, none⟩ (.string x2)) j2 b2 (deC 5 li co x2 0 nilS) from q2.set 3 (.string x2))
 have HO2 := Lib.hid O2
 clear q2 O2
 unfold deC nilS at c3
 simp only [List.getElem?_cons_succ, List.getElem?_cons_zero] at c3
 go_wp2_with fail
 clear c0 c3 f3
 generalize W2.setCell ⟨sb, 3, none⟩ (.string x2) = V2 at *
 obtain hQ3 := HE.out
 clear HE
 refine (rnumb_rd hQ3.r).mono ?_
 rintro e W3 ⟨hk3, x3, j3, b3, rfl, O3, r3⟩
 have q3 := hQ3.call hk3 r3
 clear hQ3 hk3 r3
 have c4 := q3.s.cell 4
 have f4 := q3.s.frozen 4
 unfold deC nilS at c4
 simp only [List.getElem?_cons_succ, List.getElem?_cons_zero] at c4
 have HE := Lib.hid (show Dd w b sb S (W3.setCell ⟨sb, 4, none⟩ (.int .i64 x3)) j3 b3 (deC 5 li co x2 x3 nilS) from q3.set 4 (.int .i64 x3))
 have HO3 := Lib.hid O3
 clear q3 O3
 go_wp2_with fail
 clear c4 f4
 generalize W3.setCell ⟨sb, 4, none⟩ (.int .i64 x3) = V3 at *
 obtain hQ4 := HE.out
 clear HE
 refine (rmust_any hQ4.r sSemi).mono ?_
 rintro e W4 ⟨hk4, rfl, j4, b4, O4, r4⟩
 have HE := Lib.hid (hQ4.call hk4 r4)
 have HO4 := Lib.hid O4
 clear hQ4 hk4 r4 O4
 obtain hQ := HE.out
 clear HE
 have hO : Out false k (andT (pName S.T (k + 1)) fun s j => andT (pNumb S.T j) fun n q => andT (want S.T sSemi q) fun _ t => some (.ok (mkDe 5 (li, co) s n [], t))) (mkDe 5 (li, co) x2 x3 []) j4 b4 := Out.from (k := k + 1) (HO2.out.bind (HO3.out.bind (HO4.out.bind (Out.pure _ _ _))))
 obtain ⟨cs, hb, hl, h1c, hz, hD⟩ := hQ.told0 hO
 have HZ := Lib.hid hQ.z
 have HB := Lib.hid hb
 have HF := Lib.hid (And.intro hz hD)
 clear hQ hO hb hz hD
 go_wp2_with (first | ((with_reducible show wpList _ _ _ (Oper.mk none (.store 55 _ _) _ _ _ _ :: _) _ _); refine wpList_store_blk info55 rfl (.tmp 2) (.tmp 72) rfl w.heap.size cs (deC 0 0 0 ⟨#[]⟩ 0 nilS) rfl rfl HZ rfl hl h1c ?_) | ((with_reducible show wpList _ _ _ (Oper.mk _ (.load 55 _) _ _ _ _ :: _) _ _); refine wpList_load_blk hu55 hr55 info55 rfl (.tmp 3) rfl sb cs rfl HB hl ?_))
 exact end_blk hu55 hr55 info55 HF.out.1 hl rfl rfl rfl HF.out.2
set_option maxHeartbeats 8000000 in
theorem dd6 {w V : World} {b sb k : Nat} {S : Src} {li co : Int} (hk : k < S.T.length) (h : Dd w b sb S V k false (deC 6 li co ⟨#[]⟩ 0 nilS)) {u1 u4 u5 u6 u7 u8 u9 u10 u11 u12 u13 u14 u15 u16 u17 u18 u19 u20 u21 u22 u23 u24 u25 u26 u27 u28 u29 u30 u31 u32 u33 u34 u35 u36 u37 u38 u39 u40 u41 u42 u43 u44 u45 u46 u47 u48 u49 u50 u51 u52 u53 u54 u55 u56 u57 u58 u59 u60 u61 u62 u63 u64 u65 u66 u67 u68 u69 u70 u71 u72 : Value} :
  Code.wp Tryz.prog (dropS 4 (Tryz.f40.body.getD .skip)) (bodyPost Tryz.prog Tryz.f40 (DDk w b S k (andT (pName S.T (k + 1)) fun s j => andT (pBlk S.T j) fun bl q => some (.ok (mkDe 6 (li, co) s 0 bl, q))))) ⟨#[.pointer (some ⟨b, 0, none⟩), u1, .pointer (some ⟨w.heap.size, 0, none⟩), .pointer (some ⟨sb, 0, none⟩), u4, u5, u6, u7, u8, u9, u10, u11, u12, u13, u14, u15, u16, u17, u18, u19, u20, u21, u22, u23, u24, u25, u26, u27, u28, u29, u30, u31, u32, u33, u34, u35, u36, u37, u38, u39, u40, u41, u42, u43, u44, u45, u46, u47, u48, u49, u50, u51, u52, u53, u54, u55, u56, u57, u58, u59, u60, u61, u62, u63, u64, u65, u66, u67, u68, u69, u70, u71, u72], []⟩ V := by
 obtain ⟨d55, hu55, hr55⟩ := under55
 conv in (dropS _ _) => whnf
 have hmx := h.r.mx
 have hle := h.r.le
 have c0 : V.cell? ⟨sb, 0, none⟩ = some (.int .i64 6) := h.s.cell 0
 have hs0 : sb ≠ b := by have := h.B; have := h.blt; omega
 have hkm : (k : Int) < 1000000 := by omega
 have c1 := h.r.c1
 have f1 := h.r.hd.frozen 1
 have h1 := h.step hk
 have HE := Lib.hid h1
 clear h h1
 go_wp2_with fail
 clear c0 c1 f1
 generalize V.setCell ⟨b, 1, none⟩ (.int .i64 ((k : Int) + 1)) = V1 at *
 obtain hQ2 := HE.out
 clear HE
 refine (rname_rd hQ2.r).mono ?_
 rintro e W2 ⟨hk2, x2, j2, b2, rfl, O2, r2⟩
 have q2 := hQ2.call hk2 r2
 clear hQ2 hk2 r2
 have c3 := q2.s.cell 3
 have f3 := q2.s.frozen 3
 have c0 : W2.cell? ⟨sb, 0, none⟩ = some (.int .i64 6) := q2.s.cell 0
 have HE := Lib.hid (show Dd w b sb S (W2.setCell ⟨sb, 3, none⟩ (.string x2)) j2 b2 (deC 6 li co x2 0 nilS) from q2.set 3 (.string x2))
 have HO2 := Lib.hid O2
 clear q2 O2
 unfold deC nilS at c3
 simp only [List.getElem?_cons_succ, List.getElem?_cons_zero] at c3
 go_wp2_with fail
 clear c0 c3 f3
 generalize W2.setCell ⟨sb, 3, none⟩ (.string x2) = V2 at *
 obtain hQ3 := HE.out
 clear HE
 have hneB : b2 = false → pB S.T (3 * S.T.length + 3) j2 ≠ none := fun _ hn => by
  obtain ⟨R, hR, -⟩ := pBlk_total S.T hQ3.r.le
  have hR2 : pB S.T (3 * S.T.length + 3) j2 = some R := hR
  rw [hn] at hR2
  cases hR2
 refine (rblock_any _ _ _ _ _ _ hQ3.r hneB).mono ?_
 rintro e W3 ⟨hk3, a3, cap3, l3, j3, b3, rfl, hcap3, hX3, O3, r3⟩
 have q3 := hQ3.call hk3 r3
 have hY3 : StsL (fun c => w.heap.size + 1 ≤ c) (W3.setCell ⟨sb, 5, none⟩ (.slice a3 l3.length cap3)) a3 0 l3 := by
  have h1 := hQ3.B
  have h2 := hQ3.s.lt
  refine StsL.weak (fun c hc => (by have : V2.heap.size ≤ c := hc; omega : w.heap.size + 1 ≤ c)) (StsL.keep (fun c o v hc hv => ?_) hX3)
  have hc2 : V2.heap.size ≤ c := hc
  rw [← hv]
  simp [World.cell?, Below.heap_setCell W3 ⟨sb, 5, none⟩ (.slice a3 l3.length cap3) c (show c ≠ sb by omega)]
 have c5 := q3.s.cell 5
 have f5 := q3.s.frozen 5
 unfold deC nilS at c5
 simp only [List.getElem?_cons_succ, List.getElem?_cons_zero] at c5
 have HE := Lib.hid (show Dd w b sb S (W3.setCell ⟨sb, 5, none⟩ (.slice a3 l3.length cap3)) j3 b3 (deC 6 li co x2 0 (.slice a3 l3.length cap3)) from q3.set 5 _)
 have HO3 := Lib.hid O3
 have HY := Lib.hid (And.intro hcap3 hY3)
 clear q3 O3 hQ3 hk3 hX3 r3 hneB hcap3 hY3
 obtain hQ := HE.out
 clear HE
 have hO : Out false k (andT (pName S.T (k + 1)) fun s j => andT (pBlk S.T j) fun bl q => some (.ok (mkDe 6 (li, co) s 0 bl, q))) (mkDe 6 (li, co) x2 0 l3) j3 b3 := Out.from (k := k + 1) (HO2.out.bind (HO3.out.bind (Out.pure _ _ _)))
 obtain ⟨cs, hb, hl, h1c, hz, hD⟩ := hQ.told HY.out.1 HY.out.2 hO
 have HZ := Lib.hid hQ.z
 have HB := Lib.hid hb
 have HF := Lib.hid (And.intro hz hD)
 clear hQ hO hb hz hD
 go_wp2_with (first | ((with_reducible show wpList _ _ _ (Oper.mk none (.store 55 _ _) _ _ _ _ :: _) _ _); refine wpList_store_blk info55 rfl (.tmp 2) (.tmp 69) rfl w.heap.size cs (deC 0 0 0 ⟨#[]⟩ 0 nilS) rfl rfl HZ rfl hl h1c ?_) | ((with_reducible show wpList _ _ _ (Oper.mk _ (.load 55 _) _ _ _ _ :: _) _ _); refine wpList_load_blk hu55 hr55 info55 rfl (.tmp 3) rfl sb cs rfl HB hl ?_))
 exact end_blk hu55 hr55 info55 HF.out.1 hl rfl rfl rfl HF.out.2
set_option maxHeartbeats 8000000 in
theorem dd1 {w V : World} {b sb k : Nat} {S : Src} {li co : Int} (hk : k < S.T.length) (hN : ∀ (x : Int) {i : Nat}, x = (S.T.getD i default).num → 0 ≤ x ∧ x ≤ 2147483647) (h : Dd w b sb S V k false (deC 1 li co ⟨#[]⟩ 0 nilS)) {u1 u4 u5 u6 u7 u8 u9 u10 u11 u12 u13 u14 u15 u16 u17 u18 u19 u20 u21 u22 u23 u24 u25 u26 u27 u28 u29 u30 u31 u32 u33 u34 u35 u36 u37 u38 u39 u40 u41 u42 u43 u44 u45 u46 u47 u48 u49 u50 u51 u52 u53 u54 u55 u56 u57 u58 u59 u60 u61 u62 u63 u64 u65 u66 u67 u68 u69 u70 u71 u72 : Value} :
  Code.wp Tryz.prog (dropS 4 (Tryz.f40.body.getD .skip)) (bodyPost Tryz.prog Tryz.f40 (DDk w b S k (andT (pName S.T (k + 1)) fun s j => andT (want S.T sEq j) fun _ m => if isT S.T m sMinus = true then andT (pNumb S.T (m + 1)) fun n q => andT (want S.T sSemi q) fun _ t => some (.ok (mkDe 1 (li, co) s (-n) [], t)) else andT (pNumb S.T m) fun n q => andT (want S.T sSemi q) fun _ t => some (.ok (mkDe 1 (li, co) s n [], t))))) ⟨#[.pointer (some ⟨b, 0, none⟩), u1, .pointer (some ⟨w.heap.size, 0, none⟩), .pointer (some ⟨sb, 0, none⟩), u4, u5, u6, u7, u8, u9, u10, u11, u12, u13, u14, u15, u16, u17, u18, u19, u20, u21, u22, u23, u24, u25, u26, u27, u28, u29, u30, u31, u32, u33, u34, u35, u36, u37, u38, u39, u40, u41, u42, u43, u44, u45, u46, u47, u48, u49, u50, u51, u52, u53, u54, u55, u56, u57, u58, u59, u60, u61, u62, u63, u64, u65, u66, u67, u68, u69, u70, u71, u72], []⟩ V := by
 obtain ⟨d55, hu55, hr55⟩ := under55
 conv in (dropS _ _) => whnf
 have hmx := h.r.mx
 have hle := h.r.le
 have c0 : V.cell? ⟨sb, 0, none⟩ = some (.int .i64 1) := h.s.cell 0
 have hs0 : sb ≠ b := by have := h.B; have := h.blt; omega
 have hkm : (k : Int) < 1000000 := by omega
 have c1 := h.r.c1
 have f1 := h.r.hd.frozen 1
 have h1 := h.step hk
 have HE := Lib.hid h1
 clear h h1
 go_wp2_with fail
 clear c0 c1 f1
 generalize V.setCell ⟨b, 1, none⟩ (.int .i64 ((k : Int) + 1)) = V1 at *
 obtain hQ2 := HE.out
 clear HE
 refine (rname_rd hQ2.r).mono ?_
 rintro e W2 ⟨hk2, x2, j2, b2, rfl, O2, r2⟩
 have q2 := hQ2.call hk2 r2
 clear hQ2 hk2 r2
 have c3 := q2.s.cell 3
 have f3 := q2.s.frozen 3
 have c0 : W2.cell? ⟨sb, 0, none⟩ = some (.int .i64 1) := q2.s.cell 0
 have HE := Lib.hid (show Dd w b sb S (W2.setCell ⟨sb, 3, none⟩ (.string x2)) j2 b2 (deC 1 li co x2 0 nilS) from q2.set 3 (.string x2))
 have HO2 := Lib.hid O2
 clear q2 O2
 unfold deC nilS at c3
 simp only [List.getElem?_cons_succ, List.getElem?_cons_zero] at c3
 go_wp2_with fail
 clear c0 c3 f3
 generalize W2.setCell ⟨sb, 3, none⟩ (.string x2) = V2 at *
 obtain hQ3 := HE.out
 clear HE
 refine (rmust_any hQ3.r sEq).mono ?_
 rintro e W3 ⟨hk3, rfl, j3, b3, O3, r3⟩
 have HE := Lib.hid (hQ3.call hk3 r3)
 have HO3 := Lib.hid O3
 clear hQ3 hk3 r3 O3
 go_wp2_with fail
 obtain hQ4 := HE.out
 clear HE
 refine (rtake_any hQ4.r sMinus).mono ?_
 rintro e W4 ⟨hk4, rfl, r4⟩
 obtain ⟨m, hm⟩ : ∃ m, (!b3 && isT S.T j3 sMinus) = m := ⟨_, rfl⟩
 rw [hm] at r4 ⊢
 have q4 := hQ4.call hk4 r4
 have HM := Lib.hid hm
 clear hQ4 hk4 r4 hm
 cases m
 ·simp only [Bool.false_eq_true, if_false] at q4
  have HE := Lib.hid q4
  clear q4
  go_wp2_with fail
  obtain hQ5 := HE.out
  clear HE
  refine (rnumb_rd hQ5.r).mono ?_
  rintro e W5 ⟨hk5, x5, j5, b5, rfl, O5, r5⟩
  have q5 := hQ5.call hk5 r5
  clear hQ5 hk5 r5
  have c4 := q5.s.cell 4
  have f4 := q5.s.frozen 4
  unfold deC nilS at c4
  simp only [List.getElem?_cons_succ, List.getElem?_cons_zero] at c4
  have HE := Lib.hid (show Dd w b sb S (W5.setCell ⟨sb, 4, none⟩ (.int .i64 x5)) j5 b5 (deC 1 li co x2 x5 nilS) from q5.set 4 (.int .i64 x5))
  have HO5 := Lib.hid O5
  clear q5 O5
  go_wp2_with fail
  clear c4 f4
  generalize W5.setCell ⟨sb, 4, none⟩ (.int .i64 x5) = V5 at *
  obtain hQ6 := HE.out
  clear HE
  refine (rmust_any hQ6.r sSemi).mono ?_
  rintro e W6 ⟨hk6, rfl, j6, b6, O6, r6⟩
  have HE := Lib.hid (hQ6.call hk6 r6)
  have HO6 := Lib.hid O6
  clear hQ6 hk6 r6 O6
  obtain hQ := HE.out
  clear HE
  have hO : Out false k (andT (pName S.T (k + 1)) fun s j => andT (want S.T sEq j) fun _ m => if isT S.T m sMinus = true then andT (pNumb S.T (m + 1)) fun n q => andT (want S.T sSemi q) fun _ t => some (.ok (mkDe 1 (li, co) s (-n) [], t)) else andT (pNumb S.T m) fun n q => andT (want S.T sSemi q) fun _ t => some (.ok (mkDe 1 (li, co) s n [], t))) (mkDe 1 (li, co) x2 x5 []) j6 b6 := Out.from (k := k + 1) (HO2.out.bind (HO3.out.bind (Out.iteN HM.out (HO5.out.bind (HO6.out.bind (Out.pure _ _ _))))))
  obtain ⟨cs, hb, hl, h1c, hz, hD⟩ := hQ.told0 hO
  have HZ := Lib.hid hQ.z
  have HB := Lib.hid hb
  have HF := Lib.hid (And.intro hz hD)
  clear hQ hO hb hz hD
  go_wp2_with (first | ((with_reducible show wpList _ _ _ (Oper.mk none (.store 55 _ _) _ _ _ _ :: _) _ _); refine wpList_store_blk info55 rfl (.tmp 2) (.tmp 72) rfl w.heap.size cs (deC 0 0 0 ⟨#[]⟩ 0 nilS) rfl rfl HZ rfl hl h1c ?_) | ((with_reducible show wpList _ _ _ (Oper.mk _ (.load 55 _) _ _ _ _ :: _) _ _); refine wpList_load_blk hu55 hr55 info55 rfl (.tmp 3) rfl sb cs rfl HB hl ?_))
  exact end_blk hu55 hr55 info55 HF.out.1 hl rfl rfl rfl HF.out.2
 ·simp only [if_true] at q4
  have HE := Lib.hid q4
  clear q4
  go_wp2_with fail
  obtain hQ5 := HE.out
  clear HE
  refine (rnumb_rd hQ5.r).mono ?_
  rintro e W5 ⟨hk5, x5, j5, b5, rfl, O5, r5⟩
  have q5 := hQ5.call hk5 r5
  clear hQ5 hk5 r5
  have c4 := q5.s.cell 4
  have f4 := q5.s.frozen 4
  unfold deC nilS at c4
  simp only [List.getElem?_cons_succ, List.getElem?_cons_zero] at c4
  obtain ⟨y, hy⟩ : ∃ y, wrap64 (-x5) = y := ⟨_, rfl⟩
  have HY : Hid (b5 = false → y = -x5) := Lib.hid (fun e => by
   subst e
   have hx := pNumb_val O5.good.2
   have hb := hN _ hx
   rw [← hy]
   unfold wrap64
   omega)
  have HE := Lib.hid (show Dd w b sb S ((W5.setCell ⟨sb, 4, none⟩ (.int .i64 x5)).setCell ⟨sb, 4, none⟩ (.int .i64 y)) j5 b5 (deC 1 li co x2 y nilS) from (q5.set 4 (.int .i64 x5)).set 4 (.int .i64 y))
  have HO5 := Lib.hid O5
  clear q5 O5
  go_wp2_with fail
  clear c4 f4 hy
  generalize (W5.setCell ⟨sb, 4, none⟩ (.int .i64 x5)).setCell ⟨sb, 4, none⟩ (.int .i64 y) = V5 at *
  obtain hQ6 := HE.out
  clear HE
  refine (rmust_any hQ6.r sSemi).mono ?_
  rintro e W6 ⟨hk6, rfl, j6, b6, O6, r6⟩
  have HE := Lib.hid (hQ6.call hk6 r6)
  have HO6 := Lib.hid O6
  clear hQ6 hk6 r6 O6
  obtain hQ := HE.out
  clear HE
  have hO : Out false k (andT (pName S.T (k + 1)) fun s j => andT (want S.T sEq j) fun _ m => if isT S.T m sMinus = true then andT (pNumb S.T (m + 1)) fun n q => andT (want S.T sSemi q) fun _ t => some (.ok (mkDe 1 (li, co) s (-n) [], t)) else andT (pNumb S.T m) fun n q => andT (want S.T sSemi q) fun _ t => some (.ok (mkDe 1 (li, co) s n [], t))) (mkDe 1 (li, co) x2 y []) j6 b6 := Out.from (k := k + 1) (HO2.out.bind (HO3.out.bind (Out.iteP HM.out (Out.neg HY.out HO5.out HO6.out))))
  obtain ⟨cs, hb, hl, h1c, hz, hD⟩ := hQ.told0 hO
  have HZ := Lib.hid hQ.z
  have HB := Lib.hid hb
  have HF := Lib.hid (And.intro hz hD)
  clear hQ hO hb hz hD
  go_wp2_with (first | ((with_reducible show wpList _ _ _ (Oper.mk none (.store 55 _ _) _ _ _ _ :: _) _ _); refine wpList_store_blk info55 rfl (.tmp 2) (.tmp 72) rfl w.heap.size cs (deC 0 0 0 ⟨#[]⟩ 0 nilS) rfl rfl HZ rfl hl h1c ?_) | ((with_reducible show wpList _ _ _ (Oper.mk _ (.load 55 _) _ _ _ _ :: _) _ _); refine wpList_load_blk hu55 hr55 info55 rfl (.tmp 3) rfl sb cs rfl HB hl ?_))
  exact end_blk hu55 hr55 info55 HF.out.1 hl rfl rfl rfl HF.out.2
theorem deAt_mem (T : List Wd) (i : Nat) : deAt T i = 0 ∨ deAt T i = 1 ∨ deAt T i = 2 ∨ deAt T i = 3 ∨ deAt T i = 4 ∨ deAt T i = 5 ∨ deAt T i = 6 := by
 unfold deAt
 rcases hf : (List.range 7).find? fun k => decide (k ≠ 0) && isT T i (deW.getD k noB) with _ | j
 ·exact .inl rfl
 ·have hj2 : j < 7 := by simpa using List.mem_of_find?_eq_some hf
  show j = 0 ∨ j = 1 ∨ j = 2 ∨ j = 3 ∨ j = 4 ∨ j = 5 ∨ j = 6
  omega
theorem isT_one {T : List Wd} {i : Nat} {s t : ByteArray} (h : isT T i s = true) (h2 : isT T i t = true) : s = t := by
 unfold isT at h h2
 simp only [Bool.and_eq_true, decide_eq_true_eq] at h h2
 exact h.2.2.symm.trans h2.2.2
theorem de_iff (T : List Wd) (i k : Nat) (hk : k < 7) (h1 : 1 ≤ k) : isT T i (deW.getD k noB) = decide (deAt T i = k) := by
 have hall : ∀ a, a < 7 → ∀ c, c < 7 → a ≠ 0 → deW.getD a noB = deW.getD c noB → a = c := by decide
 by_cases h : isT T i (deW.getD k noB) = true
 ·rw [h]
  symm
  rw [decide_eq_true_iff]
  unfold deAt
  rcases hf : (List.range 7).find? fun k => decide (k ≠ 0) && isT T i (deW.getD k noB) with _ | j
  ·have := List.find?_eq_none.1 hf k (List.mem_range.2 hk)
   rw [h, decide_eq_true (show k ≠ 0 by omega)] at this
   exact absurd rfl this
  ·have hj := List.find?_some hf
   have hj2 := List.mem_of_find?_eq_some hf
   simp only [Bool.and_eq_true, decide_eq_true_eq] at hj
   exact hall j (by simpa using hj2) k hk hj.1 (isT_one hj.2 h)
 ·rw [Bool.not_eq_true] at h
  rw [h]
  symm
  rw [decide_eq_false_iff_not]
  intro e
  unfold deAt at e
  rcases hf : (List.range 7).find? fun k => decide (k ≠ 0) && isT T i (deW.getD k noB) with _ | j
  ·rw [hf] at e
   have : (0 : Nat) = k := e
   omega
  ·rw [hf] at e
   have hj := List.find?_some hf
   simp only [Bool.and_eq_true, decide_eq_true_eq] at hj
   have e2 : j = k := e
   subst e2
   rw [hj.2] at h
   cases h
theorem deV_get {i : Nat} (h : i < 7) : deV[i]? = some (.string (deW.getD i noB)) := by
 unfold deV
 rw [List.getElem?_map, List.getD_eq_getElem?_getD]
 have hl : i < deW.length := h
 rw [List.getElem?_eq_getElem hl]
 rfl
set_option maxHeartbeats 8000000 in
theorem dd_tail {w V : World} {b sb k : Nat} {S : Src} {li co : Int} (hN : ∀ (x : Int) {i : Nat}, x = (S.T.getD i default).num → 0 ≤ x ∧ x ≤ 2147483647) (hp : plOf S.T k = (li, co)) (h : Dd w b sb S V k false (deC (deAt S.T k : Nat) li co ⟨#[]⟩ 0 nilS)) {u1 u4 u5 u6 u7 u8 u9 u10 u11 u12 u13 u14 u15 u16 u17 u18 u19 u20 u21 u22 u23 u24 u25 u26 u27 u28 u29 u30 u31 u32 u33 u34 u35 u36 u37 u38 u39 u40 u41 u42 u43 u44 u45 u46 u47 u48 u49 u50 u51 u52 u53 u54 u55 u56 u57 u58 u59 u60 u61 u62 u63 u64 u65 u66 u67 u68 u69 u70 u71 u72 : Value} :
  Code.wp Tryz.prog (dropS 4 (Tryz.f40.body.getD .skip)) (bodyPost Tryz.prog Tryz.f40 (DDk w b S k (pD S.T k))) ⟨#[.pointer (some ⟨b, 0, none⟩), u1, .pointer (some ⟨w.heap.size, 0, none⟩), .pointer (some ⟨sb, 0, none⟩), u4, u5, u6, u7, u8, u9, u10, u11, u12, u13, u14, u15, u16, u17, u18, u19, u20, u21, u22, u23, u24, u25, u26, u27, u28, u29, u30, u31, u32, u33, u34, u35, u36, u37, u38, u39, u40, u41, u42, u43, u44, u45, u46, u47, u48, u49, u50, u51, u52, u53, u54, u55, u56, u57, u58, u59, u60, u61, u62, u63, u64, u65, u66, u67, u68, u69, u70, u71, u72], []⟩ V := by
 have hlt := deAt_lt S.T (i := k)
 unfold pD
 rw [hp]
 rcases deAt_mem S.T k with e | e | e | e | e | e | e <;> rw [e] at h hlt ⊢
 ·rw [if_pos rfl]
  exact dd0 h
 ·simp only [if_neg (show ¬ (1 = 0) by decide), if_true]
  exact dd1 (hlt (by decide)) hN h
 ·simp only [if_neg (show ¬ (2 = 0) by decide), if_neg (show ¬ (2 = 1) by decide)]
  exact dd2 (hlt (by decide)) h
 ·simp only [if_neg (show ¬ (3 = 0) by decide), if_neg (show ¬ (3 = 1) by decide), if_neg (show ¬ (3 = 2 ∨ 3 = 5) by decide), if_neg (show ¬ (3 = 6) by decide)]
  exact dd3 (hlt (by decide)) h
 ·simp only [if_neg (show ¬ (4 = 0) by decide), if_neg (show ¬ (4 = 1) by decide), if_neg (show ¬ (4 = 2 ∨ 4 = 5) by decide), if_neg (show ¬ (4 = 6) by decide)]
  exact dd4 (hlt (by decide)) h
 ·simp only [if_neg (show ¬ (5 = 0) by decide), if_neg (show ¬ (5 = 1) by decide)]
  exact dd5 (hlt (by decide)) h
 ·simp only [if_neg (show ¬ (6 = 0) by decide), if_neg (show ¬ (6 = 1) by decide), if_neg (show ¬ (6 = 2 ∨ 6 = 5) by decide), if_true]
  exact dd6 (hlt (by decide)) h
set_option maxHeartbeats 8000000 in
theorem dd_loop {w V : World} {b sb g k : Nat} {S : Src} {li co : Int} (hN : ∀ (x : Int) {i : Nat}, x = (S.T.getD i default).num → 0 ≤ x ∧ x ≤ 2147483647) (hp : plOf S.T k = (li, co)) (hg : Blk V g 9 deV) (hgs : g ≠ sb)
  (h : Dd w b sb S V k false (deC 0 li co ⟨#[]⟩ 0 nilS)) {u1 u5 u6 u7 u8 u9 u10 u11 u12 u13 u14 u15 u16 u17 u18 u19 u20 u21 u22 u23 u24 u25 u26 u27 u28 u29 u30 u31 u32 u33 u34 u35 u36 u37 u38 u39 u40 u41 u42 u43 u44 u45 u46 u47 u48 u49 u50 u51 u52 u53 u54 u55 u56 u57 u58 u59 u60 u61 u62 u63 u64 u65 u66 u67 u68 u69 u70 u71 u72 : Value} :
  Code.wp Tryz.prog (dropS 3 (Tryz.f40.body.getD .skip)) (bodyPost Tryz.prog Tryz.f40 (DDk w b S k (pD S.T k))) ⟨#[.pointer (some ⟨b, 0, none⟩), u1, .pointer (some ⟨w.heap.size, 0, none⟩), .pointer (some ⟨sb, 0, none⟩), .slice (some ⟨g, 0, none⟩) 7 7, u5, u6, u7, u8, u9, u10, u11, u12, u13, u14, u15, u16, u17, u18, u19, u20, u21, u22, u23, u24, u25, u26, u27, u28, u29, u30, u31, u32, u33, u34, u35, u36, u37, u38, u39, u40, u41, u42, u43, u44, u45, u46, u47, u48, u49, u50, u51, u52, u53, u54, u55, u56, u57, u58, u59, u60, u61, u62, u63, u64, u65, u66, u67, u68, u69, u70, u71, u72], []⟩ V := by
 conv in (dropS _ _) => whnf
 refine wp_seq_k fun K hK => ?_
 have HK := Lib.hid hK
 clear hK
 have HE : Hid (Dd w b sb S V k false (deC (if deAt S.T k < 1 then deAt S.T k else 0 : Nat) li co ⟨#[]⟩ 0 nilS) ∧ Blk V g 9 deV) := Lib.hid (And.intro (by
  rw [show (if deAt S.T k < 1 then deAt S.T k else 0) = 0 by split <;> omega]
  exact h) hg)
 clear h hg
 go_wp2_with fail
 go_loopg [5] 6 (fun x iv wr => ∃ i : Nat, 1 ≤ i ∧ i ≤ 7 ∧ x = 7 - i ∧ iv = .int .i64 (i : Int) ∧ Hid (Dd w b sb S wr k false (deC (if deAt S.T k < i then deAt S.T k else 0 : Nat) li co ⟨#[]⟩ 0 nilS) ∧ Blk wr g 9 deV))
 case atStart => exact ⟨1, Nat.le_refl _, by decide, rfl, rfl, HE⟩
 case round =>
  clear HE
  obtain ⟨i, h1i, hi, rfl, rfl, HE⟩ := hrel
  by_cases hiN : i < 7
  ·have hlt : (i : Int) < 7 := by omega
   have hp0 : (0 : Int) ≤ (i : Int) := by omega
   obtain ⟨hQ, hg⟩ := HE.out
   have gi := hg.cell i
   rw [deV_get hiN] at gi
   have hkw := de_iff S.T k i hiN h1i
   obtain ⟨s, hs⟩ : ∃ s, deW.getD i noB = s := ⟨_, rfl⟩
   rw [hs] at gi hkw
   have hpi := ris_any hQ.r s
   obtain ⟨m, hm⟩ : ∃ m, isT S.T k s = m := ⟨_, rfl⟩
   rw [hm] at hpi hkw
   have HKW := Lib.hid hkw
   clear hQ hg hkw hm
   go_wp2_with fail
   refine hpi.mono ?_
   rintro e W2 ⟨rfl, hb2⟩
   obtain ⟨hQ, hg⟩ := HE.out
   have q2 := hQ.call (kp_same (b := b) hb2) (hQ.r.below hb2)
   have hg2 := hg.below hb2
   clear hQ hg hb2 hpi HE gi
   cases m
   ·have HE2 : Hid (Dd w b sb S W2 k false (deC (if deAt S.T k < i + 1 then deAt S.T k else 0 : Nat) li co ⟨#[]⟩ 0 nilS) ∧ Blk W2 g 9 deV) := Lib.hid (And.intro (by
     have hne2 : deAt S.T k ≠ i := by simpa using HKW.out.symm
     rw [show (if deAt S.T k < i + 1 then deAt S.T k else 0) = (if deAt S.T k < i then deAt S.T k else 0) by split <;> split <;> omega]
     exact q2) hg2)
    clear q2 hg2 HKW
    go_wp2_with fail
    go_roundg (7 - (i + 1))
    case measure => omega
    case rel => exact ⟨i + 1, by omega, by omega, rfl, rfl, HE2⟩
   ·have heq : deAt S.T k = i := by simpa using HKW.out.symm
    have c0 := q2.s.cell 0
    unfold deC nilS at c0
    simp only [List.getElem?_cons_zero] at c0
    have f0 := q2.s.frozen 0
    have q3 := q2.set 0 (.int .i64 (i : Int))
    have HE2 : Hid (Dd w b sb S (W2.setCell ⟨sb, 0, none⟩ (.int .i64 (i : Int))) k false (deC (if deAt S.T k < i + 1 then deAt S.T k else 0 : Nat) li co ⟨#[]⟩ 0 nilS) ∧ Blk (W2.setCell ⟨sb, 0, none⟩ (.int .i64 (i : Int))) g 9 deV) := Lib.hid (And.intro (by
     rw [show (if deAt S.T k < i + 1 then deAt S.T k else 0) = i by rw [if_pos (by omega), heq]]
     exact q3) (hg2.of (Below.heap_setCell W2 ⟨sb, 0, none⟩ _ _ hgs)))
    clear q2 hg2 HKW q3 heq
    go_wp2_with fail
    go_roundg (7 - (i + 1))
    case measure => omega
    case rel => exact ⟨i + 1, by omega, by omega, rfl, rfl, HE2⟩
  ·obtain rfl : i = 7 := by omega
   have h7 : Dd w b sb S wr k false (deC (deAt S.T k : Nat) li co ⟨#[]⟩ 0 nilS) := by
    have := HE.out.1
    have hlt : deAt S.T k < 7 := by rcases deAt_mem S.T k with e | e | e | e | e | e | e <;> omega
    rwa [if_pos hlt] at this
   clear HE
   go_wp2_with fail
   exact HK.out _ _ (dd_tail hN hp h7)
set_option maxHeartbeats 8000000 in
theorem rdecl_any {w : World} {b k : Nat} {S : Src} (hN : ∀ (x : Int) {i : Nat}, x = (S.T.getD i default).num → 0 ≤ x ∧ x ≤ 2147483647) (h : Dr w b S k false) :
  Calls Tryz.prog 40 #[.pointer (some ⟨b, 0, none⟩)] w (DDk w b S k (pD S.T k)) := by
 have hbw := h.lt
 obtain ⟨w0, hw0⟩ : ∃ w0, w.alloc (.cells (deC 0 0 0 ⟨#[]⟩ 0 nilS).toArray 55) = w0 := ⟨_, rfl⟩
 have h0 : Dr w0 b S k false := by rw [← hw0]; exact h.alloc _
 have hz0 : Blk w0 w.heap.size 55 (deC 0 0 0 ⟨#[]⟩ 0 nilS) := by rw [← hw0]; exact World.alloc_heap_new _ _
 have hk0 : Kp w w0 b b := by rw [← hw0]; exact (Kp.refl w b b).alloc _
 have hsz0 : w0.heap.size = w.heap.size + 1 := by rw [← hw0]; simp
 have hp := rpos_any h0
 obtain ⟨⟨li, co⟩, hpl⟩ : ∃ p, plOf S.T k = p := ⟨_, rfl⟩
 rw [hpl] at hp
 have HH := Lib.hid h
 have HW := Lib.hid hw0
 clear h hw0
 go_enter Tryz.func40, Tryz.ntmps40
 refine wp_seq_k fun K0 hK0 => ?_
 have HK0 := Lib.hid hK0
 clear hK0
 go_wp2_with fail
 refine HK0.out _ _ ?_
 clear HK0 K0
 have hw0 := HW.out
 unfold deC nilS at hw0
 rw [hw0]
 clear hw0 HW
 refine wp_seq_k fun K1 hK1 => ?_
 have HK1 := Lib.hid hK1
 clear hK1
 have HF := Lib.hid (And.intro h0 (And.intro hz0 hk0))
 clear h0 hz0 hk0
 go_wp2_with fail
 refine hp.mono ?_
 rintro e W1 ⟨rfl, hb1⟩
 obtain ⟨h0, hz0, hk0⟩ := HF.out
 have h1 := h0.below hb1
 have hz1 := hz0.below hb1
 have hK1 := hk0.trans (kp_same (b := b) hb1)
 have hs1 := hb1.size
 rw [hsz0] at hs1
 clear h0 hz0 hk0 hb1 hp hsz0 HF
 go_wp2_with fail
 have h2 := h1.alloc (.cells (deC 0 li co ⟨#[]⟩ 0 nilS).toArray 55)
 have hz2 := hz1.alloc (.cells (deC 0 li co ⟨#[]⟩ 0 nilS).toArray 55)
 have hK2 := hK1.alloc (.cells (deC 0 li co ⟨#[]⟩ 0 nilS).toArray 55)
 have hs2 := Blk.new W1 55 (deC 0 li co ⟨#[]⟩ 0 nilS)
 have hsz2 : (W1.alloc (.cells (deC 0 li co ⟨#[]⟩ 0 nilS).toArray 55)).heap.size = W1.heap.size + 1 := by simp
 obtain ⟨sb, hsb⟩ : ∃ sb, W1.heap.size = sb := ⟨_, rfl⟩
 rw [hsb] at hs2 hsz2 ⊢
 change K1 _ (W1.alloc (.cells (deC 0 li co ⟨#[]⟩ 0 nilS).toArray 55))
 generalize W1.alloc (.cells (deC 0 li co ⟨#[]⟩ 0 nilS).toArray 55) = W2 at *
 have hQ : Dd w b sb S W2 k false (deC 0 li co ⟨#[]⟩ 0 nilS) := ⟨hs2, h2, hK2, hz2, ⟨_, _, HH.out⟩, by omega⟩
 have HE := Lib.hid hQ
 clear h2 hz2 hK2 hs2 hQ
 refine HK1.out _ _ ?_
 clear HK1 K1
 refine wp_seq_k fun K2 hK2 => ?_
 have HK2 := Lib.hid hK2
 clear hK2
 go_wp2_with fail
 have hQ := HE.out
 have hb3 : Below W2.heap.size W2 (W2.alloc (.cells deV.toArray 9)) := (Below.refl _ W2).alloc (Nat.le_refl _) _
 have hgb := Blk.new W2 9 deV
 have hQ3 := hQ.call (kp_same (b := b) hb3) (hQ.r.below hb3)
 rw [hsz2] at hgb
 have hgs : sb + 1 ≠ sb := by omega
 refine HK2.out _ _ ?_
 change Code.wp _ _ _ _ (W2.alloc (.cells deV.toArray 9))
 exact dd_loop hN hpl hgb hgs hQ3
end Go.Proofs.YtjmlmelcppbefaaGreatDoor
