/- What the syntax texts share, part 26. No condition. -/
import Derived.Deep.WholeRow
import Derived.Test.YtjmlmelcppbefaaGreatDoorT25
namespace Go.Proofs.YtjmlmelcppbefaaGreatDoor
open Go.RowKit Go.Maps
theorem end_blk {T : TypeId} {d : TypeDesc} {n : Nat} (hu : Tryz.prog.underlying T = some d) (hdr : d.isRow = true) (hi : (Tryz.prog.info? T).map (·.size) = some n) {fn : Func} {R : Ending → World → Prop} {act : Act} {W : World} {b : Nat} {s : Tmp} {cs : List Value} (h : Blk W b T cs) (hl : cs.length = n) (hres : fn.results = #[.cell s T])
  (hs : act.tmps.getD s undef = .pointer (some ⟨b, 0, none⟩)) (hd : act.defers = []) (hR : R (.returned (.agg cs.toArray)) W) : bodyPost Tryz.prog fn R .ret act W := by
 have hs' : act.tmps[s]?.getD undef = .pointer (some ⟨b, 0, none⟩) := by rw [← hs]; simp
 have hld := run_loadVar_mid (P := Tryz.prog) W b 0 T cs d h.whole hu hdr (by rw [hl]; exact hi)
 refine bodyPost_ret (v := .agg cs.toArray) ?_ hd hR
 simp [results, hres, hs', asAddr, hld]
theorem under64 : ∃ d, Tryz.prog.underlying 64 = some d ∧ d.isRow = true := by
 have h : (Tryz.prog.underlying 64).map (·.isRow) = some true := by kernel_rfl
 obtain ⟨d, h1, h2⟩ := Option.map_eq_some_iff.1 h
 exact ⟨d, h1, h2⟩
def freshC (li co : Int) : List Value := [.int .i64 0, .int .i64 li, .int .i64 co, .string ⟨#[]⟩, .string ⟨#[]⟩, .int .i64 0, .int .i64 0, .string ⟨#[]⟩, .int .i64 0, .bool false, .int .i64 0, .slice none 0 0, .int .i64 0, .int .i64 0, .string ⟨#[]⟩, .int .i64 0, .bool false, .int .i64 0, .slice none 0 0, .slice none 0 0, .slice none 0 0, .int .i64 0, .int .i64 0, .int .i64 0, .bool false]
theorem freshC_one (li co : Int) : ∀ v ∈ freshC li co, v.oneCell' = true := by
 intro v hv
 unfold freshC at hv
 simp only [List.mem_cons, List.not_mem_nil, or_false] at hv
 rcases hv with rfl | rfl | rfl | rfl | rfl | rfl | rfl | rfl | rfl | rfl | rfl | rfl | rfl | rfl | rfl | rfl | rfl | rfl | rfl | rfl | rfl | rfl | rfl | rfl | rfl <;> rfl
theorem wpList_store_fresh {ops : Array Oper} {rest : List Oper} {o : Oper} {a : Act} {w : World} {Q : Exit → Act → World → Prop} {T : TypeId} {n : Nat} (hi : (Tryz.prog.info? T).map (·.size) = some n) (hgd : o.guard = none) (x y : Operand) (ho : o.op = .store T x y)
  (w0 : World) (c cs : List Value) (hw : w = w0.alloc (.cells c.toArray T)) (hc : c.length = n) (hl : cs.length = n) (h1 : ∀ v ∈ cs, v.oneCell' = true) (z : Nat) (hz : w0.heap.size = z) (hx : a.eval x = .pointer (some ⟨z, 0, none⟩)) (hy : a.eval y = .agg cs.toArray)
  (h : wpList Tryz.prog ops Q rest (a.put o.dst undef) (w0.alloc (.cells cs.toArray T))) : wpList Tryz.prog ops Q (o :: rest) a w := by
 subst hw
 subst hz
 refine wpList_plain hgd fun K hK => ?_
 unfold Oper.wp execOp
 have := run_storeAt_new (P := Tryz.prog) w0 T c.toArray cs.toArray (by rw [hi]; simp [hl]) (by simp [hc, hl]) (all_oneCell_toArray h1)
 simp only [ho, hx, hy, Sem.run_bind, this, Result.andThen_ok]
 exact hK _ _ h
theorem Sb.fresh (B : Nat) (w : World) (li co : Int) : Sb B (w.alloc (.cells (freshC li co).toArray 64)) w.heap.size (mkSt 0 (li, co) noB noB zEx zEx [] []) := by
 refine ⟨_, World.alloc_heap_new _ _, ?_⟩
 unfold mkSt StL freshC
 exact ⟨[.int .i64 0, .int .i64 0, .string ⟨#[]⟩, .int .i64 0, .bool false, .int .i64 0, .slice none 0 0], [.int .i64 0, .int .i64 0, .string ⟨#[]⟩, .int .i64 0, .bool false, .int .i64 0, .slice none 0 0], none, none, 0, 0, rfl, no_arg _ 0 0 ⟨#[]⟩, no_arg _ 0 0 ⟨#[]⟩, ⟨Nat.le_refl _, by decide⟩, by unfold StsL; trivial, ⟨Nat.le_refl _, by decide⟩, by unfold StsL; trivial⟩
theorem wpList_load_blk {ops : Array Oper} {rest : List Oper} {o : Oper} {a : Act} {w : World} {Q : Exit → Act → World → Prop} {T : TypeId} {d : TypeDesc} {n : Nat} (hu : Tryz.prog.underlying T = some d) (hdr : d.isRow = true) (hi : (Tryz.prog.info? T).map (·.size) = some n) (hgd : o.guard = none) (x : Operand) (ho : o.op = .load T x)
  (b : Nat) (cs : List Value) (hx : a.eval x = .pointer (some ⟨b, 0, none⟩)) (hb : Hid (Blk w b T cs)) (hl : cs.length = n) (h : wpList Tryz.prog ops Q rest (a.put o.dst (.agg cs.toArray)) w) : wpList Tryz.prog ops Q (o :: rest) a w :=
 wpList_load_mid hgd T x ho b 0 hx cs d hb.out.whole hu hdr (by rw [hl]; exact hi) h
theorem wpList_store_blk {ops : Array Oper} {rest : List Oper} {o : Oper} {a : Act} {w : World} {Q : Exit → Act → World → Prop} {T : TypeId} {n : Nat} (hi : (Tryz.prog.info? T).map (·.size) = some n) (hgd : o.guard = none) (x y : Operand) (ho : o.op = .store T x y)
  (b : Nat) (cs C : List Value) (hx : a.eval x = .pointer (some ⟨b, 0, none⟩)) (hy : a.eval y = .agg cs.toArray) (hb : Hid (Blk w b T C)) (hC : C.length = n) (hl : cs.length = n) (h1 : ∀ v ∈ cs, v.oneCell' = true) (h : wpList Tryz.prog ops Q rest (a.put o.dst undef) (w.setCells b 0 cs)) : wpList Tryz.prog ops Q (o :: rest) a w :=
 wpList_store_mid hgd T x y ho b 0 cs.toArray hx hy (hb.out.there (by simp [hC, hl])) (by rw [hi]; simp [hl]) (all_oneCell_toArray h1) (by simpa using h)
theorem stmt_told {w W : World} {b sb z B j k0 : Nat} {C : List Value} {S : Src} {st : St} (h0 : Rw w b S k0) (hK : Kp w W b b) (_hs : Sb B W sb st) (h : Rw W b S j) (hz : Blk W z 64 C) (hC : C.length = 25) (hwz : w.heap.size ≤ z) (hzB : z < B) (hbw : b < w.heap.size) {cs : List Value} (hc : Blk W sb 64 cs ∧ StL (fun c => B ≤ c ∧ c ≠ sb) W cs st) :
  Blk (W.setCells z 0 cs) z 64 cs ∧ WP w b S (.ok (st, j)) (stOk w) (.returned (.agg cs.toArray)) (W.setCells z 0 cs) := by
 have hl := hc.2.cells.1
 have hKV := Kp.setCellsNew hwz cs 0 hK
 refine ⟨hz.putAll (by rw [hl, hC]), hKV, ⟨cs, rfl, ?_⟩, h0.fin h hKV (heap_setCells (by omega) cs 0 W)⟩
 refine StL.weak (fun c hcc => (by have := hcc.1; omega : w.heap.size ≤ c)) (StL.keep (fun c o v hcc hv => ?_) hc.2)
 rw [← hv]
 simp [World.cellU, World.cell?, World.frozen?, heap_setCells (w := W) (vs := cs) (o := 0) (show c ≠ z by have := hcc.1; omega)]
theorem eq_fn (fn : Fn) (a c : Array Value) (w : World) : (binOp .eql 130 (.func fn a c) .nilFunc).run Tryz.prog w = .ok (.bool false) w := by kernel_rfl
theorem eq_nofn (w : World) : (binOp .eql 130 .nilFunc .nilFunc).run Tryz.prog w = .ok (.bool true) w := by kernel_rfl
def gsOf (T : List Wd) (k : Nat) : List (St → Nat → PR St) := if k = 1 then [gName T, gIs T, gExpr T] else if k = 8 ∨ k = 12 then [gName T, gWith T] else if k = 11 then [gName T, gExpr T] else if k = 14 then [] else if k = 15 then [gExpr T] else [gName T]
theorem stOf_lt (s : ByteArray) : stOf s < 16 := by
 unfold stOf
 rcases hf : (List.range 16).find? fun k => decide (stW.getD k noB ≠ noB) && decide (stW.getD k noB = s) with _ | k
 ·exact Nat.zero_lt_succ _
 ·have := List.mem_of_find?_eq_some hf
  simpa using this
theorem stOf_ne (s : ByteArray) : stOf s ≠ 2 ∧ stOf s ≠ 3 := by
 unfold stOf
 rcases hf : (List.range 16).find? fun k => decide (stW.getD k noB ≠ noB) && decide (stW.getD k noB = s) with _ | k
 ·exact ⟨by decide, by decide⟩
 ·have := List.find?_some hf
  simp only [Bool.and_eq_true, decide_eq_true_eq] at this
  refine ⟨fun e => ?_, fun e => ?_⟩
  ·have e2 : k = 2 := e
   subst e2
   exact this.1 rfl
  ·have e2 : k = 3 := e
   subst e2
   exact this.1 rfl
theorem plain_eq (T : List Wd) (p : Int × Int) (k i : Nat) (h : k < 16) (h0 : k ≠ 0) (h2 : k ≠ 2) (h3 : k ≠ 3) (h4 : k ≠ 4) (h5 : k ≠ 5) :
  (andT (gFold (gsOf T k) ((mkSt 0 p noB noB zEx zEx [] []).setKind k) i) fun st j => gEnd T st j) = pPlain T p k i := by
 have hk : k = 1 ∨ k = 6 ∨ k = 7 ∨ k = 8 ∨ k = 9 ∨ k = 10 ∨ k = 11 ∨ k = 12 ∨ k = 13 ∨ k = 14 ∨ k = 15 := by omega
 rcases hk with rfl | rfl | rfl | rfl | rfl | rfl | rfl | rfl | rfl | rfl | rfl
 all_goals
  simp [gsOf, pPlain, gFold, gName, gIs, gExpr, gWith, gEnd, andT_assoc, mkSt, St.setKind, St.setName, St.setWith, St.setExpr]
theorem plain_go {b : Nat} {S : Src} (hb0 : b ≠ 0) {w : World} {B sb k : Nat} {p : Int × Int} {R : Except Nat (St × Nat)} {fv : Value} {s : ByteArray} (h : Rw w b S k) (hO : Ops w) (hP : Plain w b fv (stOf s) (partsOf (stOf s))) (hA : Away S sb) (hb : b < B) (hB : B ≤ sb)
  (hs : Sb B w sb (mkSt 0 p noB noB zEx zEx [] [])) (h0 : stOf s ≠ 0) (h4 : ¬ stOf s = 4) (h5 : ¬ stOf s = 5) (hR : pPlain S.T p (stOf s) k = some R) :
  ∃ g1 g2 : Nat, fv = .func (.func 117) #[] #[.pointer (some ⟨g1, 0, none⟩), .pointer (some ⟨g2, 0, none⟩)] ∧ Calls Tryz.prog 117 #[.pointer (some ⟨b, 0, none⟩), .pointer (some ⟨sb, 0, none⟩), .pointer (some ⟨g1, 0, none⟩), .pointer (some ⟨g2, 0, none⟩)] w (SP w b sb B S R) := by
 have hlt := stOf_lt s
 have hne := stOf_ne s
 rw [← plain_eq S.T p (stOf s) k hlt h0 hne.1 hne.2 h4 h5] at hR
 generalize stOf s = q at *
 refine plain_part (G := gsOf S.T q) hb0 ?_ ?_ h hO hP hA hb hB hs hR ?_
 all_goals
  have hk : q = 1 ∨ q = 6 ∨ q = 7 ∨ q = 8 ∨ q = 9 ∨ q = 10 ∨ q = 11 ∨ q = 12 ∨ q = 13 ∨ q = 14 ∨ q = 15 := by omega
 ·have e66 := part_name (b := b) (S := S)
  have e68 := part_with (b := b) (S := S)
  have e69 := part_expr (b := b) (S := S) hb0
  have e71 := part_is (b := b) (S := S)
  clear hP hR
  intro i hi
  rcases hk with rfl | rfl | rfl | rfl | rfl | rfl | rfl | rfl | rfl | rfl | rfl
  all_goals
   rcases i with _ | _ | _ | i
   all_goals first
    | exact ⟨_, rfl, .inl rfl, e66⟩
    | exact ⟨_, rfl, .inr (.inl rfl), e68⟩
    | exact ⟨_, rfl, .inr (.inr (.inl rfl)), e69⟩
    | exact ⟨_, rfl, .inr (.inr (.inr rfl)), e71⟩
    | (exfalso; simp [partsOf] at hi; omega)
    | (exfalso; simp [partsOf] at hi; done)
 ·rcases hk with rfl | rfl | rfl | rfl | rfl | rfl | rfl | rfl | rfl | rfl | rfl <;> rfl
 ·rcases hk with rfl | rfl | rfl | rfl | rfl | rfl | rfl | rfl | rfl | rfl | rfl <;> decide
set_option maxRecDepth 100000 in
set_option maxHeartbeats 8000000 in
theorem stmt_step {b : Nat} {S : Src} {f : Nat} (hb0 : b ≠ 0) (hB : CB b S f) : CS b S (f + 1) := by
 intro w k R h hO hkd hR
 rw [pS] at hR
 obtain ⟨d64, hu64, hr64⟩ := under64
 have hbw := h.lt
 have hmx := h.mx
 have hle := h.le
 have HH := Lib.hid h
 have h0 := h.alloc (.cells zSt 64)
 have hp := peek_any h0
 have hkN := kindN S.T S.en k
 obtain ⟨wd, hwd⟩ : ∃ wd, nextW S.T S.en k = wd := ⟨_, rfl⟩
 have hat : k < S.T.length → wd = S.T.getD k default := fun e => by rw [← hwd]; unfold nextW; rw [if_pos e]
 rw [hwd] at hp hkN
 obtain ⟨kd, tx, nu, li, co⟩ := wd
 have HA := Lib.hid (And.intro hat (show kd = kindAt S.T k from hkN))
 have HR := Lib.hid hR
 clear hwd hkN hat hR h
 have hz0 : Blk (w.alloc (.cells zSt 64)) w.heap.size 64 zSt.toList := World.alloc_heap_new _ _
 have hk0 : Kp w (w.alloc (.cells zSt 64)) b b := (Kp.refl w b b).alloc _
 have hsz0 : (w.alloc (.cells zSt 64)).heap.size = w.heap.size + 1 := by simp
 go_enter Tryz.func118, Tryz.ntmps118
 go_wp2_with fail
 refine hp.mono ?_
 rintro e W1 ⟨rfl, hb1⟩
 simp only [Wd.val]
 have h1 := h0.below hb1
 have hz1 := hz0.below hb1
 have hK1 := hk0.trans (kp_same (b := b) hb1)
 have hs1 := hb1.size
 rw [hsz0] at hs1
 clear h0 hz0 hk0 hb1 hp hsz0
 have hwz : (W1.alloc (.cells #[.int .i64 kd, .string tx, .int .i64 nu, .int .i64 li, .int .i64 co] 91)).heap.size = W1.heap.size + 1 := by simp
 have hT1 : Tk (W1.alloc (.cells #[.int .i64 kd, .string tx, .int .i64 nu, .int .i64 li, .int .i64 co] 91)) W1.heap.size kd tx nu (li, co) := World.alloc_heap_new _ _
 have hT2 := hT1.alloc (.cells (freshC li co).toArray 64)
 have h2 := (h1.alloc (.cells #[.int .i64 kd, .string tx, .int .i64 nu, .int .i64 li, .int .i64 co] 91)).alloc (.cells (freshC li co).toArray 64)
 have hz2 := (hz1.alloc (.cells #[.int .i64 kd, .string tx, .int .i64 nu, .int .i64 li, .int .i64 co] 91)).alloc (.cells (freshC li co).toArray 64)
 have hK2 := (hK1.alloc (.cells #[.int .i64 kd, .string tx, .int .i64 nu, .int .i64 li, .int .i64 co] 91)).alloc (.cells (freshC li co).toArray 64)
 have hs2 := Sb.fresh W1.heap.size (W1.alloc (.cells #[.int .i64 kd, .string tx, .int .i64 nu, .int .i64 li, .int .i64 co] 91)) li co
 rw [hwz] at hs2
 have t0 := hT2.c0
 have t1 := hT2.c1
 have HE := Lib.hid (And.intro h2 (And.intro hz2 (And.intro hK2 hs2)))
 clear hT2 hT1 h2 hz2 hK2 hs2 h1 hz1 hK1
 have hbB : b < W1.heap.size := by omega
 by_cases hk1 : kd = 1
 ·subst hk1
  go_wp2_with ((with_reducible show wpList _ _ _ (Oper.mk none (.store 64 _ _) _ _ _ _ :: _) _ _); refine wpList_store_fresh info64 rfl (.tmp 4) (.tmp 12) rfl (W1.alloc (.cells #[.int .i64 1, .string tx, .int .i64 nu, .int .i64 li, .int .i64 co] 91)) zSt.toList (freshC li co) rfl rfl rfl (freshC_one li co) _ hwz rfl rfl ?_)
  obtain ⟨h2, hz2, hK2, hs2⟩ := HE.out
  clear HE t0 t1
  obtain ⟨sb, hsb⟩ : ∃ sb, W1.heap.size + 1 = sb := ⟨_, rfl⟩
  rw [hsb] at hs2 ⊢
  generalize (W1.alloc (.cells #[.int .i64 1, .string tx, .int .i64 nu, .int .i64 li, .int .i64 co] 91)).alloc (.cells (freshC li co).toArray 64) = W2 at *
  have hA := HH.out.away (sb := sb) (by omega)
  have hkl := kind_lt S.T (i := k) (by rw [← HA.out.2]; decide)
  have hR := HR.out
  have hpos : plOf S.T k = (li, co) := by
   unfold plOf
   rw [← HA.out.1 hkl]
  rw [if_pos HA.out.2.symm, hpos, ← assign_eq] at hR
  refine (assign_part hb0 W2 W1.heap.size sb k _ R h2 (hO.kp hK2 hb0) hA hbB (by omega) hs2 hR).mono ?_
  rintro e W3 ⟨hk3, hr3⟩
  have hK3 := hK2.drop hk3 (by omega)
  rcases R with j | ⟨st, j⟩
  ·obtain rfl := hr3
   exact ⟨rfl, hK3, rfl⟩
  ·obtain ⟨rfl, hs3, h3⟩ := hr3
   have hs3' := hs3
   obtain ⟨cs, hcb, hcs⟩ := hs3'
   have hz3 := hz2.kp hk3 (by omega) (by omega)
   have hl := hcs.cells.1
   have h1c := hcs.cells.2
   have HCB := Lib.hid hcb
   have HZ := Lib.hid hz3
   have HF := Lib.hid (stmt_told HH.out hK3 hs3 h3 hz3 rfl (Nat.le_refl _) (by omega) hbw ⟨hcb, hcs⟩)
   clear hK3 hs3 h3 hz3 hcb hcs hk3 h2 hz2 hK2 hs2 hB hR
   go_wp2_with (first | ((with_reducible show wpList _ _ _ (Oper.mk _ (.load 64 _) _ _ _ _ :: _) _ _); refine wpList_load_blk hu64 hr64 info64 rfl (.tmp 4) rfl sb cs rfl HCB hl ?_) | ((with_reducible show wpList _ _ _ (Oper.mk none (.store 64 _ _) _ _ _ _ :: _) _ _); refine wpList_store_blk info64 rfl (.tmp 2) (.tmp 18) rfl w.heap.size cs zSt.toList rfl rfl HZ rfl hl h1c ?_))
   exact end_blk hu64 hr64 info64 HF.out.1 hl rfl rfl rfl HF.out.2
 ·have hk1' : (kd == 1) = false := by simpa using hk1
  go_upto_region 6 with ((with_reducible show wpList _ _ _ (Oper.mk none (.store 64 _ _) _ _ _ _ :: _) _ _); refine wpList_store_fresh info64 rfl (.tmp 4) (.tmp 12) rfl (W1.alloc (.cells #[.int .i64 kd, .string tx, .int .i64 nu, .int .i64 li, .int .i64 co] 91)) zSt.toList (freshC li co) rfl rfl rfl (freshC_one li co) _ hwz rfl rfl ?_)
  obtain ⟨h2, hz2, hK2, hs2⟩ := HE.out
  clear HE
  obtain ⟨sb, hsb⟩ : ∃ sb, W1.heap.size + 1 = sb := ⟨_, rfl⟩
  rw [hsb] at hs2 ⊢
  generalize (W1.alloc (.cells #[.int .i64 kd, .string tx, .int .i64 nu, .int .i64 li, .int .i64 co] 91)).alloc (.cells (freshC li co).toArray 64) = W2 at *
  have hA := HH.out.away (sb := sb) (by omega)
  have hR := HR.out
  rw [if_neg (fun e => hk1 (HA.out.2.trans e))] at hR
  have hkd2 := hkd.kp hK2 (Nat.le_refl _)
  obtain ⟨g, l, n, hkv, hgb, hg, hread⟩ := hkd2.mp
  have hv := hread tx
  obtain ⟨v, hvd⟩ : ∃ v, ((kfind l tx).map fun p => p.2.1).getD .nilFunc = v := ⟨_, rfl⟩
  have hlk : ∀ n, (Instr.lookup 76 (.map (some g)) (.string tx) false).run Tryz.prog (W2.drewN n) = .ok v (W2.drewN n) := fun m => by
   rw [← hvd]
   exact look_fn (w := W2.drewN m) hg tx
  have c4 := h2.c4
  rw [hkv] at c4
  go_quiet (fail)
  rename_i nq
  have h3 := h2.drewN nq
  have hs3 := hs2.drewN nq
  have hz3 := hz2.drewN nq
  have hK3 := hK2.drewN nq
  have hkd3 : Kds (W2.drewN nq) b S := hkd2.keep (fun _ _ _ => rfl)
  have d0 : (W2.drewN nq).cell? ⟨W1.heap.size, 0, none⟩ = some (.int .i64 kd) := t0
  have hreads : ∀ s, Reads (W2.drewN nq) b (stOf s) ((kfind l s).map fun p => p.2.1) := by
   obtain ⟨g', l', n', e1, -, e2, e3⟩ := hkd3.mp
   rw [hkv] at e1
   cases e1
   have e4 : (W2.drewN nq).heap[g]? = some (.map (l.map entOf).toArray n) := hg
   rw [e4] at e2
   intro s
   have e5 : l = l' := by
    have e6 : (l.map entOf) = (l'.map entOf) := by simpa using (Obj.map.inj (Option.some.inj e2)).1
    exact List.map_inj_right (fun a b hab => by
     obtain ⟨a1, a2, a3⟩ := a
     obtain ⟨b1, b2, b3⟩ := b
     unfold entOf at hab
     simp at hab
     obtain ⟨q1, q2, q3⟩ := hab
     rw [q1, q2, q3]) |>.1 e6
   rw [e5]
   exact e3 s
  have hv3 := hreads tx
  clear hread hreads hv hkd2 hg c4 hlk t0 t1 h2 hs2 hz2 hK2
  generalize W2.drewN nq = V at *
  have c1 := h3.c1
  have f1 := h3.frozen 1
  by_cases hk3 : kd = 3
  ·subst hk3
   have hkl := kind_lt S.T (i := k) (by rw [← HA.out.2]; decide)
   have htx : (S.T.getD k default).text = tx := by rw [← HA.out.1 hkl]
   have hpos : plOf S.T k = (li, co) := by
    unfold plOf
    rw [← HA.out.1 hkl]
   rw [htx, hpos] at hR
   have h3k : kindAt S.T k = 3 := HA.out.2.symm
   have h4 := h3.step hkl
   have hs4 := hs3.kp ((Kp.refl V b b).setA 1 (.int .i64 ((k : Int) + 1))) hbB (by omega)
   have hz4 := hz3.kp ((Kp.refl V b b).setA 1 (.int .i64 ((k : Int) + 1))) (by omega) (by omega)
   have hkd4 := hkd3.kp ((Kp.refl V b b).setA 1 (.int .i64 ((k : Int) + 1))) (Nat.le_refl _)
   have hK4 := hK3.setA 1 (.int .i64 ((k : Int) + 1))
   unfold Reads at hv3
   by_cases hs0 : stOf tx = 0
   ·rw [if_pos hs0] at hv3
    rw [if_pos (.inr hs0)] at hR
    cases hR
    rw [hv3] at hvd
    obtain rfl : Value.nilFunc = v := hvd
    have hqn := eq_nofn
    go_wp2_with fail
    refine (fail_any h3).mono ?_
    rintro e W5 ⟨rfl, hb5⟩
    exact ⟨rfl, hK3.trans (kp_same hb5), rfl⟩
   ·rw [if_neg hs0] at hv3
    rw [if_neg (fun e => e.elim (fun e => e h3k) hs0)] at hR
    by_cases hs5 : stOf tx = 5
    ·rw [if_pos hs5] at hR
     rw [if_neg (by omega), if_pos hs5] at hv3
     rw [hv3] at hvd
     obtain rfl : Value.func (.func 77) #[] #[] = v := hvd
     have hqn := eq_fn (.func 77) #[] #[]
     go_wp2_with fail
     generalize V.setCell ⟨b, 1, none⟩ (.int .i64 ((k : Int) + 1)) = V4 at *
     refine (while_part hb0 hB V4 W1.heap.size sb (k + 1) (mkSt 0 (li, co) noB noB zEx zEx [] []) R h4 (hO.kp hK4 hb0) hkd4 hA hbB (by omega) hs4 hR).mono ?_
     rintro e W5 ⟨hk5, hr5⟩
     have hK5 := hK4.drop hk5 (by omega)
     rcases R with j | ⟨st, j⟩
     ·obtain rfl := hr5
      exact ⟨rfl, hK5, rfl⟩
     ·obtain ⟨rfl, hs5, h5⟩ := hr5
      have hs5' := hs5
      obtain ⟨cs, hcb, hcs⟩ := hs5'
      have hz5 := hz4.kp hk5 (by omega) (by omega)
      have hl := hcs.cells.1
      have h1c := hcs.cells.2
      have HCB := Lib.hid hcb
      have HZ := Lib.hid hz5
      have HF := Lib.hid (stmt_told HH.out hK5 hs5 h5 hz5 rfl (Nat.le_refl _) (by omega) hbw ⟨hcb, hcs⟩)
      clear hK5 hs5 h5 hz5 hcb hcs hk5 h4 hz4 hK4 hs4 hB hR hkd4
      go_wp2_with (first | ((with_reducible show wpList _ _ _ (Oper.mk _ (.load 64 _) _ _ _ _ :: _) _ _); refine wpList_load_blk hu64 hr64 info64 rfl (.tmp 4) rfl sb cs rfl HCB hl ?_) | ((with_reducible show wpList _ _ _ (Oper.mk none (.store 64 _ _) _ _ _ _ :: _) _ _); refine wpList_store_blk info64 rfl (.tmp 2) (.tmp 49) rfl w.heap.size cs zSt.toList rfl rfl HZ rfl hl h1c ?_))
      exact end_blk hu64 hr64 info64 HF.out.1 hl rfl rfl rfl HF.out.2
    ·rw [if_neg hs5] at hR
     by_cases hs4' : stOf tx = 4
     ·rw [if_pos hs4'] at hR
      rw [if_pos hs4'] at hv3
      rw [hv3] at hvd
      obtain rfl : Value.func (.func 74) #[] #[] = v := hvd
      have hqn := eq_fn (.func 74) #[] #[]
      go_wp2_with fail
      generalize V.setCell ⟨b, 1, none⟩ (.int .i64 ((k : Int) + 1)) = V4 at *
      refine (if_part hb0 hB V4 W1.heap.size sb (k + 1) (mkSt 0 (li, co) noB noB zEx zEx [] []) R h4 (hO.kp hK4 hb0) hkd4 hA hbB (by omega) hs4 hR).mono ?_
      rintro e W5 ⟨hk5, hr5⟩
      have hK5 := hK4.drop hk5 (by omega)
      rcases R with j | ⟨st, j⟩
      ·obtain rfl := hr5
       exact ⟨rfl, hK5, rfl⟩
      ·obtain ⟨rfl, hs5, h5⟩ := hr5
       have hs5' := hs5
       obtain ⟨cs, hcb, hcs⟩ := hs5'
       have hz5 := hz4.kp hk5 (by omega) (by omega)
       have hl := hcs.cells.1
       have h1c := hcs.cells.2
       have HCB := Lib.hid hcb
       have HZ := Lib.hid hz5
       have HF := Lib.hid (stmt_told HH.out hK5 hs5 h5 hz5 rfl (Nat.le_refl _) (by omega) hbw ⟨hcb, hcs⟩)
       clear hK5 hs5 h5 hz5 hcb hcs hk5 h4 hz4 hK4 hs4 hB hR hkd4
       go_wp2_with (first | ((with_reducible show wpList _ _ _ (Oper.mk _ (.load 64 _) _ _ _ _ :: _) _ _); refine wpList_load_blk hu64 hr64 info64 rfl (.tmp 4) rfl sb cs rfl HCB hl ?_) | ((with_reducible show wpList _ _ _ (Oper.mk none (.store 64 _ _) _ _ _ _ :: _) _ _); refine wpList_store_blk info64 rfl (.tmp 2) (.tmp 49) rfl w.heap.size cs zSt.toList rfl rfl HZ rfl hl h1c ?_))
       exact end_blk hu64 hr64 info64 HF.out.1 hl rfl rfl rfl HF.out.2
     ·rw [if_neg hs4'] at hR
      rw [if_neg hs4', if_neg hs5] at hv3
      obtain ⟨fv, hfv, hP⟩ := hv3
      rw [hfv] at hvd
      obtain rfl : fv = v := hvd
      have hP4 := hP.keep (w' := V.setCell ⟨b, 1, none⟩ (.int .i64 ((k : Int) + 1))) (fun c hc hcb => ((Kp.refl V b b).setA 1 (.int .i64 ((k : Int) + 1))).block c hc (by omega) (by omega))
      obtain ⟨g1, g2, hfd, hcall⟩ := plain_go hb0 h4 (hO.kp hK4 hb0) hP4 hA hbB (by omega) hs4 hs0 hs4' hs5 hR
      subst hfd
      have hqn := eq_fn (.func 117) #[] #[.pointer (some ⟨g1, 0, none⟩), .pointer (some ⟨g2, 0, none⟩)]
      go_wp2_with fail
      clear hP4 hP
      generalize V.setCell ⟨b, 1, none⟩ (.int .i64 ((k : Int) + 1)) = V4 at *
      refine (hcall).mono ?_
      rintro e W5 ⟨hk5, hr5⟩
      have hK5 := hK4.drop hk5 (by omega)
      rcases R with j | ⟨st, j⟩
      ·obtain rfl := hr5
       exact ⟨rfl, hK5, rfl⟩
      ·obtain ⟨rfl, hs5, h5⟩ := hr5
       have hs5' := hs5
       obtain ⟨cs, hcb, hcs⟩ := hs5'
       have hz5 := hz4.kp hk5 (by omega) (by omega)
       have hl := hcs.cells.1
       have h1c := hcs.cells.2
       have HCB := Lib.hid hcb
       have HZ := Lib.hid hz5
       have HF := Lib.hid (stmt_told HH.out hK5 hs5 h5 hz5 rfl (Nat.le_refl _) (by omega) hbw ⟨hcb, hcs⟩)
       clear hK5 hs5 h5 hz5 hcb hcs hk5 h4 hz4 hK4 hs4 hB hR hkd4
       go_wp2_with (first | ((with_reducible show wpList _ _ _ (Oper.mk _ (.load 64 _) _ _ _ _ :: _) _ _); refine wpList_load_blk hu64 hr64 info64 rfl (.tmp 4) rfl sb cs rfl HCB hl ?_) | ((with_reducible show wpList _ _ _ (Oper.mk none (.store 64 _ _) _ _ _ _ :: _) _ _); refine wpList_store_blk info64 rfl (.tmp 2) (.tmp 49) rfl w.heap.size cs zSt.toList rfl rfl HZ rfl hl h1c ?_))
       exact end_blk hu64 hr64 info64 HF.out.1 hl rfl rfl rfl HF.out.2
  ·have hk3' : (kd != 3) = true := by simpa using hk3
   rw [if_pos (.inl (fun e => hk3 (HA.out.2.trans e)))] at hR
   cases hR
   go_wp2_with fail
   refine (fail_any h3).mono ?_
   rintro e W5 ⟨rfl, hb5⟩
   exact ⟨rfl, hK3.trans (kp_same hb5), rfl⟩
end Go.Proofs.YtjmlmelcppbefaaGreatDoor
namespace Go.Proofs.YtjmlmelcppbefaaGreatDoor
open Go.RowKit Go.Maps
theorem stmt_all {b : Nat} {S : Src} (hb0 : b ≠ 0) : ∀ f, (∀ g, g ≤ f → CB b S g) ∧ (∀ g, g ≤ f → CS b S g) := by
 intro f
 induction f with
 | zero =>
  refine ⟨fun g hg => ?_, fun g hg => ?_⟩
  ·obtain rfl : g = 0 := by omega
   intro w k R h hO hkd hR
   rw [pB_zero] at hR
   cases hR
  ·obtain rfl : g = 0 := by omega
   intro w k R h hO hkd hR
   rw [pS_zero] at hR
   cases hR
 | succ f ih =>
  obtain ⟨hB, hS⟩ := ih
  refine ⟨fun g hg => ?_, fun g hg => ?_⟩
  ·by_cases h : g ≤ f
   ·exact hB g h
   ·obtain rfl : g = f + 1 := by omega
    exact block_step hb0 hS
  ·by_cases h : g ≤ f
   ·exact hS g h
   ·obtain rfl : g = f + 1 := by omega
    exact stmt_step hb0 (hB f (Nat.le_refl _))
theorem block_any {w : World} {b k : Nat} {S : Src} (hb0 : b ≠ 0) (h : Rw w b S k) (hO : Ops w) (hkd : Kds w b S) {R : Except Nat (List St × Nat)} (hR : pBlk S.T k = some R) :
  Calls Tryz.prog 75 #[.pointer (some ⟨b, 0, none⟩)] w (WP w b S R (blkOk w)) := (stmt_all hb0 (3 * S.T.length + 3)).1 _ (Nat.le_refl _) w k R h hO hkd hR
theorem plain_any {w : World} {kind : Nat} {a : Option Addr} {cap : Nat} {Fs : List FuncId} (h : ∀ i, i < Fs.length → ∃ g3 off, a = some ⟨g3, off, none⟩ ∧ w.cell? ⟨g3, off + i, none⟩ = some (.func (.func (Fs.getD i 0)) #[] #[])) (n : Nat) (hn : Fs.length = n) :
  Calls Tryz.prog 73 #[.int .i64 (kind : Int), .slice a n cap] w fun e w' => ∃ v, e = .returned v ∧ Below w.heap.size w w' ∧ Plain w' w'.heap.size v kind Fs := by
 subst hn
 go_enter Tryz.func73, Tryz.ntmps73
 go_wp2_with fail
 go_ret
 refine ⟨_, rfl, ((Below.refl _ w).alloc (Nat.le_refl _) _).alloc (by simp) _, w.heap.size, w.heap.size + 1, a, cap, rfl, by simp; omega, ?_, by simp, ?_, fun i hi => ?_⟩
 ·exact ((Blk.new w 62 [.int .i64 (kind : Int)]).alloc (.cells #[.slice a Fs.length cap] 176)).cell 0
 ·simp
 ·obtain ⟨g3, off, h1, h2⟩ := h i hi
  have h3 := World.block_lt_of_cell? w _ h2
  have h4 : g3 < w.heap.size := h3
  refine ⟨g3, off, h1, by simp; omega, ?_⟩
  rw [← h2]
  have h5 := (((Below.refl _ w).alloc (Nat.le_refl _) (.cells #[.int .i64 (kind : Int)] 62)).alloc (by simp) (.cells #[.slice a Fs.length cap] 176)).block g3 h4
  simp only [World.cell?, h5]
theorem Plain.mono {w : World} {b b' : Nat} {fv : Value} {kind : Nat} {Ps : List FuncId} (h : Plain w b fv kind Ps) (hb : b ≤ b') : Plain w b' fv kind Ps := by
 obtain ⟨g1, g2, a, cap, h1, h2, h3, h4, h5, h6⟩ := h
 refine ⟨g1, g2, a, cap, h1, by omega, h3, by omega, h5, fun i hi => ?_⟩
 obtain ⟨g3, off, h7, h8, h9⟩ := h6 i hi
 exact ⟨g3, off, h7, by omega, h9⟩
theorem Reads.move {w w' : World} {b b' k : Nat} {v : Option Value} (h : Reads w b k v) (hb : b ≤ b') (hk : ∀ (c o : Nat) (u : Value), c < b → w.cell? ⟨c, o, none⟩ = some u → w'.cell? ⟨c, o, none⟩ = some u) : Reads w' b' k v := by
 unfold Reads at h ⊢
 split
 ·rw [if_pos (by assumption)] at h; exact h
 rename_i h0
 rw [if_neg h0] at h
 split
 ·rw [if_pos (by assumption)] at h; exact h
 rename_i h1
 rw [if_neg h1] at h
 split
 ·rw [if_pos (by assumption)] at h; exact h
 rename_i h2
 rw [if_neg h2] at h
 obtain ⟨fv, h6, g1, g2, a, cap, q1, q2, q3, q4, q5, q6⟩ := h
 refine ⟨fv, h6, g1, g2, a, cap, q1, by omega, hk _ _ _ q2 q3, by omega, hk _ _ _ q4 q5, fun i hi => ?_⟩
 obtain ⟨g3, off, h7, h8, h9⟩ := q6 i hi
 exact ⟨g3, off, h7, by omega, hk _ _ _ h8 h9⟩
structure KMs (w0 w : World) (g : Nat) (ks : List Nat) : Prop where
 blw : Below w0.heap.size w0 w
 g0 : w0.heap.size ≤ g
 mp : ∃ (l : Ents) (n : Nat), w.heap[g]? = some (.map (l.map entOf).toArray n) ∧ l.map (fun p => p.1) = ks.map (fun k => stW.getD k noB) ∧ ∀ (i : Nat) (p : ByteArray × Value × Nat) (k : Nat), l[i]? = some p → ks[i]? = some k → Reads w w.heap.size k (some p.2.1)
theorem KMs.below {w0 w w' : World} {g : Nat} {ks : List Nat} (h : KMs w0 w g ks) (hb : Below w.heap.size w w') : KMs w0 w' g ks := by
 obtain ⟨l, n, h1, h2, h3⟩ := h.mp
 have h0 := h.blw.size
 refine ⟨h.blw.trans (hb.mono h0), h.g0, l, n, (hb.block g (Array.getElem?_eq_some_iff.1 h1).1).trans h1, h2, fun i p k hp hk => (h3 i p k hp hk).move hb.size (fun c o u hc hu => ?_)⟩
 rw [← hu]
 simp [World.cell?, hb.block c hc]
theorem KMs.put {w0 w : World} {g : Nat} {ks : List Nat} (h : KMs w0 w g ks) {k : Nat} {v : Value} (hv : Reads w w.heap.size k (some v)) (s : ByteArray) (hs : s = stW.getD k noB) (hn : (ks.all fun j => decide (stW.getD j noB ≠ s)) = true) :
  ∃ W, (Instr.mapUpdate 76 (.map (some g)) (.string s) v).run Tryz.prog w = .ok () W ∧ KMs w0 W g (ks ++ [k]) ∧ W.heap.size = w.heap.size := by
 obtain ⟨l, n, h1, h2, h3⟩ := h.mp
 have hnf : kfind l s = none := by
  unfold kfind
  rw [List.find?_eq_none]
  intro p hp
  have h4 : p.1 ∈ l.map (fun p => p.1) := List.mem_map_of_mem hp
  rw [h2] at h4
  obtain ⟨j, hj, hjp⟩ := List.mem_map.1 h4
  have h5 := List.all_eq_true.1 hn j hj
  simp only [decide_eq_true_eq] at h5
  simp only [decide_eq_true_eq]
  intro e
  exact h5 (hjp.trans e)
 have hglt := (Array.getElem?_eq_some_iff.1 h1).1
 refine ⟨_, put_fn h1 s v hnf, ?_, by simp⟩
 have hg' : ({ w with heap := w.heap.setIfInBounds g (.map ((l ++ [(s, v, n)]).map entOf).toArray (n + 1)) } : World).heap[g]? = some (.map ((l ++ [(s, v, n)]).map entOf).toArray (n + 1)) := by
  show (w.heap.setIfInBounds g _)[g]? = _
  rw [Array.getElem?_setIfInBounds]
  simp [hglt]
 have hne : ∀ c, c ≠ g → ({ w with heap := w.heap.setIfInBounds g (.map ((l ++ [(s, v, n)]).map entOf).toArray (n + 1)) } : World).heap[c]? = w.heap[c]? := fun c hc => by
  show (w.heap.setIfInBounds g _)[c]? = _
  rw [Array.getElem?_setIfInBounds]
  simp [Ne.symm hc]
 have hcell : ∀ (c o : Nat) (u : Value), c < w.heap.size → w.cell? ⟨c, o, none⟩ = some u → ({ w with heap := w.heap.setIfInBounds g (.map ((l ++ [(s, v, n)]).map entOf).toArray (n + 1)) } : World).cell? ⟨c, o, none⟩ = some u := fun c o u _ hu => by
  by_cases hc : c = g
  ·subst hc
   simp [World.cell?, h1] at hu
  ·rw [← hu]
   simp only [World.cell?]
   rw [hne c hc]
 refine ⟨⟨h.blw.os, h.blw.tape, h.blw.output, by simpa using h.blw.size, fun c hc => (hne c (by have := h.g0; omega)).trans (h.blw.block c hc)⟩, h.g0, _, _, hg', by simp [h2, hs], fun i p j hp hj => ?_⟩
 have hlen : l.length = ks.length := by
  have := congrArg List.length h2
  simpa using this
 rcases Nat.lt_or_ge i l.length with hi | hi
 ·rw [List.getElem?_append_left hi] at hp
  rw [List.getElem?_append_left (by omega)] at hj
  exact (h3 i p j hp hj).move (by simp) hcell
 ·have hi2 : i < l.length + 1 := by
   have := (List.getElem?_eq_some_iff.1 hp).1
   simpa using this
  obtain rfl : i = l.length := by omega
  rw [List.getElem?_append_right (Nat.le_refl _)] at hp
  rw [List.getElem?_append_right (by omega)] at hj
  have hp2 : p = (s, v, n) := by simpa using hp.symm
  have hj2 : j = k := by simpa [hlen] using hj.symm
  subst hp2
  subst hj2
  exact hv.move (by simp) hcell
def kOrder : List Nat := [1, 6, 7, 8, 9, 10, 11, 12, 13, 14, 15, 4, 5]
theorem kOrder_of : ∀ k, k < 16 → stW.getD k noB ≠ noB → k ∈ kOrder := by decide
theorem stOf_kw : ∀ k ∈ kOrder, stOf (stW.getD k noB) = k := by decide
theorem KMs.reads {w0 w : World} {g : Nat} (h : KMs w0 w g kOrder) : ∃ (l : Ents) (n : Nat), w.heap[g]? = some (.map (l.map entOf).toArray n) ∧ ∀ s, Reads w w.heap.size (stOf s) ((kfind l s).map fun p => p.2.1) := by
 obtain ⟨l, n, h1, h2, h3⟩ := h.mp
 refine ⟨l, n, h1, fun s => ?_⟩
 have hlen : l.length = kOrder.length := by
  have := congrArg List.length h2
  simpa using this
 rcases hf : kfind l s with _ | p
 ·have hz : stOf s = 0 := by
   unfold stOf
   rcases hg : (List.range 16).find? fun k => decide (stW.getD k noB ≠ noB) && decide (stW.getD k noB = s) with _ | k
   ·rfl
   ·have h4 := List.mem_of_find?_eq_some hg
    have h5 := List.find?_some hg
    simp only [Bool.and_eq_true, decide_eq_true_eq] at h5
    have h6 := kOrder_of k (by simpa using h4) h5.1
    have h7 : stW.getD k noB ∈ l.map (fun p => p.1) := by
     rw [h2]
     exact List.mem_map_of_mem (f := fun k => stW.getD k noB) h6
    obtain ⟨p, hp, hps⟩ := List.mem_map.1 h7
    unfold kfind at hf
    have h8 := List.find?_eq_none.1 hf p hp
    simp only [decide_eq_true_eq] at h8
    exact absurd (hps.trans h5.2) h8
  unfold Reads
  rw [if_pos hz]
  rfl
 ·unfold kfind at hf
  have hp := List.mem_of_find?_eq_some hf
  have hps := List.find?_some hf
  simp only [decide_eq_true_eq] at hps
  obtain ⟨i, hi, hip⟩ := List.mem_iff_getElem.1 hp
  have hj : kOrder[i]? = some (kOrder[i]'(by omega)) := List.getElem?_eq_getElem (by omega)
  have h4 := h3 i p _ (by rw [← hip]; exact List.getElem?_eq_getElem hi) hj
  have h5 : p.1 = stW.getD (kOrder[i]'(by omega)) noB := by
   have h6 : (l.map (fun p => p.1))[i]? = (kOrder.map (fun k => stW.getD k noB))[i]? := by rw [h2]
   rw [List.getElem?_map, List.getElem?_map, hj, List.getElem?_eq_getElem hi, hip] at h6
   simpa using h6
  have h7 := stOf_kw _ (List.getElem_mem (by omega : i < kOrder.length))
  rw [← h5, hps] at h7
  rw [h7]
  exact h4
end Go.Proofs.YtjmlmelcppbefaaGreatDoor
namespace Go.Proofs.YtjmlmelcppbefaaGreatDoor
open Go.RowKit Go.Maps
set_option maxRecDepth 100000 in
set_option maxHeartbeats 8000000 in
theorem kinds_any (w : World) : Calls Tryz.prog 36 #[] w fun e w' => ∃ g, e = .returned (.map (some g)) ∧ KMs w w' g kOrder := by
 have HM : Hid (KMs w (w.alloc (.map #[] 0)) w.heap.size []) := Lib.hid ⟨(Below.refl _ w).alloc (Nat.le_refl _) _, Nat.le_refl _, [], 0, World.alloc_heap_new _ _, rfl, fun i p k h => by simp at h⟩
 have hmk : (Instr.makeMap 76 none).run Tryz.prog w = .ok (.map (some w.heap.size)) (w.alloc (.map #[] 0)) := by kernel_rfl
 go_enter Tryz.func36, Tryz.ntmps36
 go_wp2_with fail
 obtain ⟨g, hg⟩ : ∃ g, w.heap.size = g := ⟨_, rfl⟩
 rw [hg] at HM ⊢
 have HP0 : ∀ i, i < [66, 71, 69].length → ∃ g3 off, (some ⟨(w.alloc (.map #[] 0)).heap.size, 0, none⟩ : Option Addr) = some ⟨g3, off, none⟩ ∧ ((w.alloc (.map #[] 0)).alloc (.cells #[.func (.func 66) #[] #[], .func (.func 71) #[] #[], .func (.func 69) #[] #[]] 130)).cell? ⟨g3, off + i, none⟩ = some (.func (.func (([66, 71, 69] : List FuncId).getD i 0)) #[] #[]) := fun i hi => by
  refine ⟨_, 0, rfl, ?_⟩
  rw [(Blk.new (w.alloc (.map #[] 0)) 130 [.func (.func 66) #[] #[], .func (.func 71) #[] #[], .func (.func 69) #[] #[]]).cell]
  rcases i with _ | _ | _ | i
  ·rfl
  ·rfl
  ·rfl
  ·simp at hi; try omega
 have hb0 : Below (w.alloc (.map #[] 0)).heap.size (w.alloc (.map #[] 0)) ((w.alloc (.map #[] 0)).alloc (.cells #[.func (.func 66) #[] #[], .func (.func 71) #[] #[], .func (.func 69) #[] #[]] 130)) := (Below.refl _ _).alloc (Nat.le_refl _) _
 have hgs : (w.alloc (.map #[] 0)).heap.size = g + 1 := by rw [← hg]; simp
 rw [hgs] at HP0
 refine (plain_any (kind := 1) HP0 3 rfl).mono ?_
 rintro e V0 ⟨v0, rfl, hV0, hP0⟩
 have HM0 := HM.out.below (hb0.trans (hV0.mono hb0.size))
 obtain ⟨W0, hu0, hm0, -⟩ := HM0.put (k := 1) (v := v0) ⟨v0, rfl, hP0⟩ ⟨#[108, 101, 116]⟩ rfl (by decide)
 clear HP0 hb0 hV0 hP0 HM0 HM
 have HM : Hid (KMs w W0 g [1]) := Lib.hid hm0
 clear hm0
 go_wp2_with fail
 clear hu0
 have HP1 : ∀ i, i < [66].length → ∃ g3 off, (some ⟨W0.heap.size, 0, none⟩ : Option Addr) = some ⟨g3, off, none⟩ ∧ (W0.alloc (.cells #[.func (.func 66) #[] #[]] 130)).cell? ⟨g3, off + i, none⟩ = some (.func (.func (([66] : List FuncId).getD i 0)) #[] #[]) := fun i hi => by
  refine ⟨_, 0, rfl, ?_⟩
  rw [(Blk.new W0 130 [.func (.func 66) #[] #[]]).cell]
  rcases i with _ | i
  ·rfl
  ·simp at hi; try omega
 have hb1 : Below W0.heap.size W0 (W0.alloc (.cells #[.func (.func 66) #[] #[]] 130)) := (Below.refl _ _).alloc (Nat.le_refl _) _
 refine (plain_any (kind := 6) HP1 1 rfl).mono ?_
 rintro e V1 ⟨v1, rfl, hV1, hP1⟩
 have HM1 := HM.out.below (hb1.trans (hV1.mono hb1.size))
 obtain ⟨W1, hu1, hm1, -⟩ := HM1.put (k := 6) (v := v1) ⟨v1, rfl, hP1⟩ ⟨#[108, 111, 99, 107]⟩ rfl (by decide)
 clear HP1 hb1 hV1 hP1 HM1 HM
 have HM : Hid (KMs w W1 g [1, 6]) := Lib.hid hm1
 clear hm1
 go_wp2_with fail
 clear hu1
 have HP2 : ∀ i, i < [66].length → ∃ g3 off, (some ⟨W1.heap.size, 0, none⟩ : Option Addr) = some ⟨g3, off, none⟩ ∧ (W1.alloc (.cells #[.func (.func 66) #[] #[]] 130)).cell? ⟨g3, off + i, none⟩ = some (.func (.func (([66] : List FuncId).getD i 0)) #[] #[]) := fun i hi => by
  refine ⟨_, 0, rfl, ?_⟩
  rw [(Blk.new W1 130 [.func (.func 66) #[] #[]]).cell]
  rcases i with _ | i
  ·rfl
  ·simp at hi; try omega
 have hb2 : Below W1.heap.size W1 (W1.alloc (.cells #[.func (.func 66) #[] #[]] 130)) := (Below.refl _ _).alloc (Nat.le_refl _) _
 refine (plain_any (kind := 7) HP2 1 rfl).mono ?_
 rintro e V2 ⟨v2, rfl, hV2, hP2⟩
 have HM2 := HM.out.below (hb2.trans (hV2.mono hb2.size))
 obtain ⟨W2, hu2, hm2, -⟩ := HM2.put (k := 7) (v := v2) ⟨v2, rfl, hP2⟩ ⟨#[117, 110, 108, 111, 99, 107]⟩ rfl (by decide)
 clear HP2 hb2 hV2 hP2 HM2 HM
 have HM : Hid (KMs w W2 g [1, 6, 7]) := Lib.hid hm2
 clear hm2
 go_wp2_with fail
 clear hu2
 have HP3 : ∀ i, i < [66, 68].length → ∃ g3 off, (some ⟨W2.heap.size, 0, none⟩ : Option Addr) = some ⟨g3, off, none⟩ ∧ (W2.alloc (.cells #[.func (.func 66) #[] #[], .func (.func 68) #[] #[]] 130)).cell? ⟨g3, off + i, none⟩ = some (.func (.func (([66, 68] : List FuncId).getD i 0)) #[] #[]) := fun i hi => by
  refine ⟨_, 0, rfl, ?_⟩
  rw [(Blk.new W2 130 [.func (.func 66) #[] #[], .func (.func 68) #[] #[]]).cell]
  rcases i with _ | _ | i
  ·rfl
  ·rfl
  ·simp at hi; try omega
 have hb3 : Below W2.heap.size W2 (W2.alloc (.cells #[.func (.func 66) #[] #[], .func (.func 68) #[] #[]] 130)) := (Below.refl _ _).alloc (Nat.le_refl _) _
 refine (plain_any (kind := 8) HP3 2 rfl).mono ?_
 rintro e V3 ⟨v3, rfl, hV3, hP3⟩
 have HM3 := HM.out.below (hb3.trans (hV3.mono hb3.size))
 obtain ⟨W3, hu3, hm3, -⟩ := HM3.put (k := 8) (v := v3) ⟨v3, rfl, hP3⟩ ⟨#[119, 97, 105, 116]⟩ rfl (by decide)
 clear HP3 hb3 hV3 hP3 HM3 HM
 have HM : Hid (KMs w W3 g [1, 6, 7, 8]) := Lib.hid hm3
 clear hm3
 go_wp2_with fail
 clear hu3
 have HP4 : ∀ i, i < [66].length → ∃ g3 off, (some ⟨W3.heap.size, 0, none⟩ : Option Addr) = some ⟨g3, off, none⟩ ∧ (W3.alloc (.cells #[.func (.func 66) #[] #[]] 130)).cell? ⟨g3, off + i, none⟩ = some (.func (.func (([66] : List FuncId).getD i 0)) #[] #[]) := fun i hi => by
  refine ⟨_, 0, rfl, ?_⟩
  rw [(Blk.new W3 130 [.func (.func 66) #[] #[]]).cell]
  rcases i with _ | i
  ·rfl
  ·simp at hi; try omega
 have hb4 : Below W3.heap.size W3 (W3.alloc (.cells #[.func (.func 66) #[] #[]] 130)) := (Below.refl _ _).alloc (Nat.le_refl _) _
 refine (plain_any (kind := 9) HP4 1 rfl).mono ?_
 rintro e V4 ⟨v4, rfl, hV4, hP4⟩
 have HM4 := HM.out.below (hb4.trans (hV4.mono hb4.size))
 obtain ⟨W4, hu4, hm4, -⟩ := HM4.put (k := 9) (v := v4) ⟨v4, rfl, hP4⟩ ⟨#[115, 105, 103, 110, 97, 108]⟩ rfl (by decide)
 clear HP4 hb4 hV4 hP4 HM4 HM
 have HM : Hid (KMs w W4 g [1, 6, 7, 8, 9]) := Lib.hid hm4
 clear hm4
 go_wp2_with fail
 clear hu4
 have HP5 : ∀ i, i < [66].length → ∃ g3 off, (some ⟨W4.heap.size, 0, none⟩ : Option Addr) = some ⟨g3, off, none⟩ ∧ (W4.alloc (.cells #[.func (.func 66) #[] #[]] 130)).cell? ⟨g3, off + i, none⟩ = some (.func (.func (([66] : List FuncId).getD i 0)) #[] #[]) := fun i hi => by
  refine ⟨_, 0, rfl, ?_⟩
  rw [(Blk.new W4 130 [.func (.func 66) #[] #[]]).cell]
  rcases i with _ | i
  ·rfl
  ·simp at hi; try omega
 have hb5 : Below W4.heap.size W4 (W4.alloc (.cells #[.func (.func 66) #[] #[]] 130)) := (Below.refl _ _).alloc (Nat.le_refl _) _
 refine (plain_any (kind := 10) HP5 1 rfl).mono ?_
 rintro e V5 ⟨v5, rfl, hV5, hP5⟩
 have HM5 := HM.out.below (hb5.trans (hV5.mono hb5.size))
 obtain ⟨W5, hu5, hm5, -⟩ := HM5.put (k := 10) (v := v5) ⟨v5, rfl, hP5⟩ ⟨#[97, 108, 108]⟩ rfl (by decide)
 clear HP5 hb5 hV5 hP5 HM5 HM
 have HM : Hid (KMs w W5 g [1, 6, 7, 8, 9, 10]) := Lib.hid hm5
 clear hm5
 go_wp2_with fail
 clear hu5
 have HP6 : ∀ i, i < [66, 69].length → ∃ g3 off, (some ⟨W5.heap.size, 0, none⟩ : Option Addr) = some ⟨g3, off, none⟩ ∧ (W5.alloc (.cells #[.func (.func 66) #[] #[], .func (.func 69) #[] #[]] 130)).cell? ⟨g3, off + i, none⟩ = some (.func (.func (([66, 69] : List FuncId).getD i 0)) #[] #[]) := fun i hi => by
  refine ⟨_, 0, rfl, ?_⟩
  rw [(Blk.new W5 130 [.func (.func 66) #[] #[], .func (.func 69) #[] #[]]).cell]
  rcases i with _ | _ | i
  ·rfl
  ·rfl
  ·simp at hi; try omega
 have hb6 : Below W5.heap.size W5 (W5.alloc (.cells #[.func (.func 66) #[] #[], .func (.func 69) #[] #[]] 130)) := (Below.refl _ _).alloc (Nat.le_refl _) _
 refine (plain_any (kind := 11) HP6 2 rfl).mono ?_
 rintro e V6 ⟨v6, rfl, hV6, hP6⟩
 have HM6 := HM.out.below (hb6.trans (hV6.mono hb6.size))
 obtain ⟨W6, hu6, hm6, -⟩ := HM6.put (k := 11) (v := v6) ⟨v6, rfl, hP6⟩ ⟨#[115, 101, 110, 100]⟩ rfl (by decide)
 clear HP6 hb6 hV6 hP6 HM6 HM
 have HM : Hid (KMs w W6 g [1, 6, 7, 8, 9, 10, 11]) := Lib.hid hm6
 clear hm6
 go_wp2_with fail
 clear hu6
 have HP7 : ∀ i, i < [66, 68].length → ∃ g3 off, (some ⟨W6.heap.size, 0, none⟩ : Option Addr) = some ⟨g3, off, none⟩ ∧ (W6.alloc (.cells #[.func (.func 66) #[] #[], .func (.func 68) #[] #[]] 130)).cell? ⟨g3, off + i, none⟩ = some (.func (.func (([66, 68] : List FuncId).getD i 0)) #[] #[]) := fun i hi => by
  refine ⟨_, 0, rfl, ?_⟩
  rw [(Blk.new W6 130 [.func (.func 66) #[] #[], .func (.func 68) #[] #[]]).cell]
  rcases i with _ | _ | i
  ·rfl
  ·rfl
  ·simp at hi; try omega
 have hb7 : Below W6.heap.size W6 (W6.alloc (.cells #[.func (.func 66) #[] #[], .func (.func 68) #[] #[]] 130)) := (Below.refl _ _).alloc (Nat.le_refl _) _
 refine (plain_any (kind := 12) HP7 2 rfl).mono ?_
 rintro e V7 ⟨v7, rfl, hV7, hP7⟩
 have HM7 := HM.out.below (hb7.trans (hV7.mono hb7.size))
 obtain ⟨W7, hu7, hm7, -⟩ := HM7.put (k := 12) (v := v7) ⟨v7, rfl, hP7⟩ ⟨#[114, 101, 99, 118]⟩ rfl (by decide)
 clear HP7 hb7 hV7 hP7 HM7 HM
 have HM : Hid (KMs w W7 g [1, 6, 7, 8, 9, 10, 11, 12]) := Lib.hid hm7
 clear hm7
 go_wp2_with fail
 clear hu7
 have HP8 : ∀ i, i < [66].length → ∃ g3 off, (some ⟨W7.heap.size, 0, none⟩ : Option Addr) = some ⟨g3, off, none⟩ ∧ (W7.alloc (.cells #[.func (.func 66) #[] #[]] 130)).cell? ⟨g3, off + i, none⟩ = some (.func (.func (([66] : List FuncId).getD i 0)) #[] #[]) := fun i hi => by
  refine ⟨_, 0, rfl, ?_⟩
  rw [(Blk.new W7 130 [.func (.func 66) #[] #[]]).cell]
  rcases i with _ | i
  ·rfl
  ·simp at hi; try omega
 have hb8 : Below W7.heap.size W7 (W7.alloc (.cells #[.func (.func 66) #[] #[]] 130)) := (Below.refl _ _).alloc (Nat.le_refl _) _
 refine (plain_any (kind := 13) HP8 1 rfl).mono ?_
 rintro e V8 ⟨v8, rfl, hV8, hP8⟩
 have HM8 := HM.out.below (hb8.trans (hV8.mono hb8.size))
 obtain ⟨W8, hu8, hm8, -⟩ := HM8.put (k := 13) (v := v8) ⟨v8, rfl, hP8⟩ ⟨#[115, 112, 97, 119, 110]⟩ rfl (by decide)
 clear HP8 hb8 hV8 hP8 HM8 HM
 have HM : Hid (KMs w W8 g [1, 6, 7, 8, 9, 10, 11, 12, 13]) := Lib.hid hm8
 clear hm8
 go_wp2_with fail
 clear hu8
 have HP9 : ∀ i, i < ([] : List FuncId).length → ∃ g3 off, (none : Option Addr) = some ⟨g3, off, none⟩ ∧ W8.cell? ⟨g3, off + i, none⟩ = some (.func (.func (([] : List FuncId).getD i 0)) #[] #[]) := fun i hi => by simp at hi
 have hb9 : Below W8.heap.size W8 W8 := Below.refl _ _
 refine (plain_any (kind := 14) HP9 0 rfl).mono ?_
 rintro e V9 ⟨v9, rfl, hV9, hP9⟩
 have HM9 := HM.out.below (hb9.trans (hV9.mono hb9.size))
 obtain ⟨W9, hu9, hm9, -⟩ := HM9.put (k := 14) (v := v9) ⟨v9, rfl, hP9⟩ ⟨#[106, 111, 105, 110]⟩ rfl (by decide)
 clear HP9 hb9 hV9 hP9 HM9 HM
 have HM : Hid (KMs w W9 g [1, 6, 7, 8, 9, 10, 11, 12, 13, 14]) := Lib.hid hm9
 clear hm9
 go_wp2_with fail
 clear hu9
 have HP10 : ∀ i, i < [69].length → ∃ g3 off, (some ⟨W9.heap.size, 0, none⟩ : Option Addr) = some ⟨g3, off, none⟩ ∧ (W9.alloc (.cells #[.func (.func 69) #[] #[]] 130)).cell? ⟨g3, off + i, none⟩ = some (.func (.func (([69] : List FuncId).getD i 0)) #[] #[]) := fun i hi => by
  refine ⟨_, 0, rfl, ?_⟩
  rw [(Blk.new W9 130 [.func (.func 69) #[] #[]]).cell]
  rcases i with _ | i
  ·rfl
  ·simp at hi; try omega
 have hb10 : Below W9.heap.size W9 (W9.alloc (.cells #[.func (.func 69) #[] #[]] 130)) := (Below.refl _ _).alloc (Nat.le_refl _) _
 refine (plain_any (kind := 15) HP10 1 rfl).mono ?_
 rintro e V10 ⟨v10, rfl, hV10, hP10⟩
 have HM10 := HM.out.below (hb10.trans (hV10.mono hb10.size))
 obtain ⟨W10, hu10, hm10, -⟩ := HM10.put (k := 15) (v := v10) ⟨v10, rfl, hP10⟩ ⟨#[112, 114, 105, 110, 116]⟩ rfl (by decide)
 clear HP10 hb10 hV10 hP10 HM10 HM
 have HM : Hid (KMs w W10 g [1, 6, 7, 8, 9, 10, 11, 12, 13, 14, 15]) := Lib.hid hm10
 clear hm10
 obtain ⟨W11, hu11, hm11, -⟩ := HM.out.put (k := 4) (v := .func (.func 74) #[] #[]) rfl ⟨#[105, 102]⟩ rfl (by decide)
 clear HM
 have HM : Hid (KMs w W11 g [1, 6, 7, 8, 9, 10, 11, 12, 13, 14, 15, 4]) := Lib.hid hm11
 clear hm11
 obtain ⟨W12, hu12, hm12, -⟩ := HM.out.put (k := 5) (v := .func (.func 77) #[] #[]) rfl ⟨#[119, 104, 105, 108, 101]⟩ rfl (by decide)
 clear HM
 have HM : Hid (KMs w W12 g [1, 6, 7, 8, 9, 10, 11, 12, 13, 14, 15, 4, 5]) := Lib.hid hm12
 clear hm12
 go_wp2_with fail
 clear hu11 hu12
 go_ret
 exact ⟨g, rfl, HM.out⟩
end Go.Proofs.YtjmlmelcppbefaaGreatDoor
