/- What the syntax texts share, part 39. No condition. -/
import Derived.Test.YtjmlmelcppbefaaGreatDoorT01
import Derived.Test.YtjmlmelcppbefaaGreatDoorT35
namespace Go.Proofs.YtjmlmelcppbefaaGreatDoor
open Go.RowKit Go.Maps
theorem stsS_drop {pl : Bool} {l m : List St} {i : Nat} {s t : St} (h : l[i]? = some s) (h' : m[i]? = some t) : stsS pl (l.drop i) (m.drop i) = (stS pl s t && stsS pl (l.drop (i + 1)) (m.drop (i + 1))) := by
 obtain ⟨hi, rfl⟩ := List.getElem?_eq_some_iff.1 h
 obtain ⟨hi', rfl⟩ := List.getElem?_eq_some_iff.1 h'
 rw [List.drop_eq_getElem_cons hi, List.drop_eq_getElem_cons hi', stsS]
theorem size_at {l : List St} {i : Nat} {s : St} (h : l[i]? = some s) : SizeOf.sizeOf s < SizeOf.sizeOf l := List.sizeOf_lt_of_mem (List.mem_of_getElem? h)
theorem body_lt (k l c : Int) (s t : ByteArray) (x y : Ex) (b e : List St) (i sl o : Int) (lo : Bool) : SizeOf.sizeOf b < SizeOf.sizeOf (St.mk k l c s t x y b e i sl o lo) ∧ SizeOf.sizeOf e < SizeOf.sizeOf (St.mk k l c s t x y b e i sl o lo) := by
 simp only [St.mk.sizeOf_spec]
 omega
structure Two (w : World) (V : World) (q8 q9 : Nat) (a a' : Option Addr) (cap cap' : Nat) (l m : List St) (s t : St) : Prop where
 b : Below w.heap.size w V
 l : SlAt V a cap l
 m : SlAt V a' cap' m
 s : StAt V q8 0 s
 t : StAt V q9 0 t
theorem Two.below {w V V' : World} {q8 q9 : Nat} {a a' : Option Addr} {cap cap' : Nat} {l m : List St} {s t : St} (h : Two w V q8 q9 a a' cap cap' l m s t) (hb : Below V.heap.size V V') : Two w V' q8 q9 a a' cap cap' l m s t :=
 ⟨h.b.trans (hb.mono h.b.size), h.l.below hb, h.m.below hb, h.s.below hb, h.t.below hb⟩
theorem below_cells {B r : Nat} {w : World} (hr : B ≤ r) : ∀ (vs : List Value) (o : Nat) {W : World}, Below B w W → Below B w (W.setCells r o vs)
 | [], _, _, h => h
 | v :: l, o, W, h => by
  rw [World.setCells]
  exact below_cells hr l (o + 1) (h.setCell (p := ⟨r, o, none⟩) hr v)
theorem step_store_blk {ops : Array Oper} {o : Oper} {a : Act} {w : World} {K : Act → World → Prop} {Q : Exit → Act → World → Prop} {E0 : Prop} {T : TypeId} {n : Nat} (hi : (Tryz.prog.info? T).map (·.size) = some n) (hgd : o.guard = none) (x y : Operand) (ho : o.op = .store T x y)
  (b : Nat) (cs C : List Value) (hx : a.eval x = .pointer (some ⟨b, 0, none⟩)) (hy : a.eval y = .agg cs.toArray) (hb : Blk w b T C) (hC : C.length = n) (hl : cs.length = n) (h1 : ∀ v ∈ cs, v.oneCell' = true) (h : K (a.put o.dst undef) (w.setCells b 0 cs)) : if Region.wanted o (yielded ops a.tmps) = true then Oper.wp Tryz.prog o a w K Q else E0 := by
 rw [if_pos (by simp [Region.wanted, hgd])]
 exact wp_store_mid T x y ho b 0 cs.toArray hx hy (hb.there (by simp [hC, hl])) (by rw [hi]; simp [hl]) (all_oneCell_toArray h1) (by simpa using h)
theorem StL.below {w w' : World} {cs : List Value} {s : St} (h : StL (fun _ => True) w cs s) (hb : Below w.heap.size w w') : StL (fun _ => True) w' cs s :=
 StL.keep (fun b o v _ hv => by rw [← hv]; simp [World.cell?, hb.block b (World.block_lt_of_cell? w _ hv)]) h
def SamOk (pl : Bool) (n : Nat) : Prop := ∀ (l m : List St) (a a' : Option Addr) (cap cap' : Nat) (w : World), SizeOf.sizeOf l < n → SlAt w a cap l → SlAt w a' cap' m →
 Calls Tryz.prog 31 #[.slice a l.length cap, .slice a' m.length cap', .bool pl] w fun e w' => e = .returned (.bool (decide (l.length = m.length) && stsS pl l m)) ∧ Below w.heap.size w w'
set_option maxRecDepth 100000 in
set_option maxHeartbeats 16000000 in
theorem samS_step (pl : Bool) (n : Nat) (ih : SamOk pl n) : SamOk pl (n + 1) := by
 intro l m a a' cap cap' w hsz h h'
 obtain ⟨d64, hu64, hr64⟩ := under64
 obtain ⟨d46, hu46, hr46⟩ := under46
 have hmx : Tryz.prog.follows .mixedOrders = true := by kernel_rfl
 obtain ⟨N, hN⟩ : ∃ N, l.length = N := ⟨_, rfl⟩
 obtain ⟨N', hN'⟩ : ∃ N', m.length = N' := ⟨_, rfl⟩
 have hc := h.1
 have hc' := h'.1
 rw [hN] at hc ⊢
 rw [hN'] at hc' ⊢
 have HN := Lib.hid hN
 have HN' := Lib.hid hN'
 have HSZ := Lib.hid hsz
 clear hN hN' hsz
 rcases neOr N N' with hNN | hNN
 ·rw [decide_eq_false hNN, Bool.false_and]
  have hNN2 : ¬ (N : Int) = (N' : Int) := by omega
  go_enter Tryz.func31, Tryz.ntmps31
  go_wp2_with fail
  go_ret
  exact ⟨rfl, Below.refl _ w⟩
 subst hNN
 rw [decide_eq_true rfl, Bool.true_and]
 obtain ⟨R, hR⟩ : ∃ R, stsS pl (l.drop 0) (m.drop 0) = R := ⟨_, rfl⟩
 rw [show stsS pl l m = R from hR]
 have HR := Lib.hid hR
 have HE := Lib.hid (And.intro (Below.refl w.heap.size w) (And.intro h h'))
 clear hR h h'
 go_enter Tryz.func31, Tryz.ntmps31
 go_wp2_with fail
 go_loopg [7] N (fun x iv wr => ∃ i : Nat, i ≤ N ∧ x = N - i ∧ iv = .int .i64 (i : Int) ∧ Hid (Below w.heap.size w wr ∧ SlAt wr a cap l ∧ SlAt wr a' cap' m) ∧ Hid (stsS pl (l.drop i) (m.drop i) = R))
 case atStart => exact ⟨0, Nat.zero_le _, rfl, rfl, HE, HR⟩
 case round =>
  clear HE HR
  obtain ⟨i, hi, rfl, rfl, HE, HR⟩ := hrel
  obtain ⟨hb1, h1, h1'⟩ := HE.out
  by_cases hiN : i < N
  ·have hlt : (i : Int) < (N : Int) := by omega
   have hp0 : (0 : Int) ≤ (i : Int) := by omega
   have hroom2 : (i : Int) + 1 ≤ 9223372036854775807 := by
    have h1 := hc.1
    have h2 := hc.2
    omega
   obtain ⟨s, hs⟩ : ∃ s, l[i]? = some s := ⟨_, List.getElem?_eq_getElem (by rw [HN.out]; exact hiN)⟩
   obtain ⟨t, ht⟩ : ∃ t, m[i]? = some t := ⟨_, List.getElem?_eq_getElem (by rw [HN'.out]; exact hiN)⟩
   have hR := HR.out
   rw [stsS_drop hs ht] at hR
   have hsz := size_at hs
   obtain ⟨b2, off2, rfl, cs, hrg, hL⟩ := h1.at hs
   obtain ⟨b3, off3, rfl, ds, hrg', hL'⟩ := h1'.at ht
   have hl25 := hL.cells.1
   have h1c := hL.cells.2
   have hl25' := hL'.cells.1
   have h1c' := hL'.cells.2
   have HRg := Lib.hid (And.intro hrg hrg')
   have HLL := Lib.hid (And.intro hL hL')
   have HR2 := Lib.hid hR
   have HS := Lib.hid hsz
   clear hrg hL hrg' hL' hR HR hs ht hsz HE
   go_wp2_with fail
   have hrB : ∀ W, Below wr.heap.size wr W → W.rangeAt b2 (off2 + i * 25) cs ∧ W.rangeAt b3 (off3 + i * 25) ds := fun W hb => by
    have hk : ∀ (b o : Nat) (v : Value), wr.cell? ⟨b, o, none⟩ = some v → W.cell? ⟨b, o, none⟩ = some v := fun b o v hv => by rw [← hv]; simp [World.cell?, hb.block b (World.block_lt_of_cell? wr _ hv)]
    exact ⟨fun j v hv => hk _ _ _ (HRg.out.1 j v hv), fun j v hv => hk _ _ _ (HRg.out.2 j v hv)⟩
   refine wp_region_x [11] (fun W => Below wr.heap.size wr W) hmx ?_
   have HS0 : Hid (Below wr.heap.size wr wr.drew) := Lib.hid ((Below.refl _ wr).drew)
   refine wpX_take2 0 (v := ?v0) rfl (by kernel_rfl) (by kernel_rfl) (by kernel_rfl) (by kernel_rfl) (by kernel_rfl) (fun _ _ _ h => h) HS0.out (Or.inl ⟨by rfl, ?h0⟩) ?_
   case h0 =>
    intro W1 hS1
    clear hS1
    go_simp
    with_reducible rfl
   refine wpX_take2 1 (v := ?v1) rfl (by kernel_rfl) (by kernel_rfl) (by kernel_rfl) (by kernel_rfl) (by kernel_rfl) (fun _ _ _ h => h) HS0.out (Or.inl ⟨by rfl, ?h1⟩) ?_
   case h1 =>
    intro W1 hS1
    clear hS1
    go_simp
    with_reducible rfl
   refine wpX_take2 2 (v := ?v2) rfl (by kernel_rfl) (by kernel_rfl) (by kernel_rfl) (by kernel_rfl) (by kernel_rfl) (fun _ _ _ h => h) HS0.out (Or.inl ⟨by rfl, ?h2⟩) ?_
   case h2 =>
    intro W1 hS1
    clear hS1
    go_simp
    with_reducible rfl
   refine wpX_take2 3 (v := .agg cs.toArray) rfl (by kernel_rfl) (by kernel_rfl) (by kernel_rfl) (by kernel_rfl) (by kernel_rfl) (fun _ _ _ h => h) HS0.out (yieldsIf_load_mid (by rfl) 64 (.tmp 23) rfl b2 (off2 + i * 25) rfl cs d64 (fun W hS => (hrB W hS).1) hu64 hr64 (by rw [hl25]; exact info64)) ?_
   refine wpX_take2 4 (v := ?v4) rfl (by kernel_rfl) (by kernel_rfl) (by kernel_rfl) (by kernel_rfl) (by kernel_rfl) (fun _ _ _ h => h) HS0.out (Or.inl ⟨by rfl, ?h4⟩) ?_
   case h4 =>
    intro W1 hS1
    clear hS1
    go_simp
    with_reducible rfl
   refine wpX_take2 5 (v := ?v5) rfl (by kernel_rfl) (by kernel_rfl) (by kernel_rfl) (by kernel_rfl) (by kernel_rfl) (fun _ _ _ h => h) HS0.out (Or.inl ⟨by rfl, ?h5⟩) ?_
   case h5 =>
    intro W1 hS1
    clear hS1
    go_simp
    with_reducible rfl
   refine wpX_take2 6 (v := ?v6) rfl (by kernel_rfl) (by kernel_rfl) (by kernel_rfl) (by kernel_rfl) (by kernel_rfl) (fun _ _ _ h => h) HS0.out (Or.inl ⟨by rfl, ?h6⟩) ?_
   case h6 =>
    intro W1 hS1
    clear hS1
    go_simp
    with_reducible rfl
   refine wpX_take2 7 (v := .agg ds.toArray) rfl (by kernel_rfl) (by kernel_rfl) (by kernel_rfl) (by kernel_rfl) (by kernel_rfl) (fun _ _ _ h => h) HS0.out (yieldsIf_load_mid (by rfl) 64 (.tmp 27) rfl b3 (off3 + i * 25) rfl ds d64 (fun W hS => (hrB W hS).2) hu64 hr64 (by rw [hl25']; exact info64)) ?_
   refine wpX_two 8 9 (by kernel_rfl) rfl rfl (fun K hK => ?_) (fun K hK => ?_)
   ·obtain ⟨W0, hW0⟩ : ∃ W0, ((wr.alloc (.cells zSt 64)).alloc (.cells zSt 64)).drew = W0 := ⟨_, rfl⟩
    have hsA : Below wr.heap.size wr (wr.drew.alloc (.cells zSt 64)) := (Below.refl _ wr).drew.alloc (Nat.le_refl _) _
    have hsB : Below wr.heap.size wr W0 := by
     rw [← hW0]
     exact (((Below.refl _ wr).alloc (Nat.le_refl _) _).alloc (by simp) _).drew
    have hz1 : Blk W0 wr.heap.size 64 zSt.toList := by
     rw [← hW0]
     exact ((Blk.new wr 64 zSt.toList).alloc (.cells zSt 64)).drew
    have hz2 : Blk W0 (wr.heap.size + 1) 64 zSt.toList := by
     rw [← hW0]
     have := Blk.new (wr.alloc (.cells zSt 64)) 64 zSt.toList
     rw [show (wr.alloc (.cells zSt 64)).heap.size = wr.heap.size + 1 by simp] at this
     exact this.drew
    unfold zSt at hW0
    go_simp
    refine hK _ _ (fun _ => hsA) ?_
    clear hK K
    refine wpX_one 9 (by kernel_rfl) rfl (fun K hK => ?_)
    go_simp
    refine hK _ _ (fun _ => hsB) ?_
    clear hK K hW0
    refine wpX_one 10 (by kernel_rfl) rfl (fun K hK => ?_)
    refine step_store_blk info64 rfl (.tmp 8) (.tmp 24) rfl wr.heap.size cs zSt.toList rfl rfl hz1 rfl hl25 h1c ?_
    have hsC := below_cells (r := wr.heap.size) (by omega) cs 0 hsB
    have hz3 : Blk (W0.setCells wr.heap.size 0 cs) wr.heap.size 64 cs := hz1.putAll (by rw [hl25]; rfl)
    have hz4 : Blk (W0.setCells wr.heap.size 0 cs) (wr.heap.size + 1) 64 zSt.toList := hz2.of (heap_setCells (by omega) cs 0 W0)
    refine hK _ _ (fun _ => hsC) ?_
    clear hK K hz1 hz2 hsB
    generalize W0.setCells wr.heap.size 0 cs = W1 at *
    refine wpX_one 11 (by kernel_rfl) rfl (fun K hK => ?_)
    refine step_store_blk info64 rfl (.tmp 9) (.tmp 28) rfl (wr.heap.size + 1) ds zSt.toList rfl rfl hz4 rfl hl25' h1c' ?_
    have hsD := below_cells (r := (wr.heap.size + 1)) (by omega) ds 0 hsC
    have hz5 : Blk (W1.setCells (wr.heap.size + 1) 0 ds) (wr.heap.size + 1) 64 ds := hz4.putAll (by rw [hl25']; rfl)
    have hz6 : Blk (W1.setCells (wr.heap.size + 1) 0 ds) wr.heap.size 64 cs := hz3.of (heap_setCells (by omega) ds 0 W1)
    refine hK _ _ (fun h => by cases h) ?_
    clear hK K hz3 hz4 hsC
    generalize W1.setCells (wr.heap.size + 1) 0 ds = W2 at *
    refine wpX_done (by kernel_rfl) ?_ _
    have T2 : Two w W2 wr.heap.size (wr.heap.size + 1) (some ⟨b2, off2, none⟩) (some ⟨b3, off3, none⟩) cap cap' l m s t := ⟨hb1.trans (hsD.mono hb1.size), h1.below hsD, h1'.below hsD, ⟨cs, hz6.whole, HLL.out.1.below hsD⟩, ds, hz5.whole, HLL.out.2.below hsD⟩
    have hR := HR2.out
    have HT2 := Lib.hid T2
    obtain ⟨sk, sl, sc, sn, sw, sx, sy, sb, se, sid, ssl, sot, slo⟩ := s
    obtain ⟨tk, tl, tc, tn, tw, tx, ty, tb, te, tid, tsl, tot, tlo⟩ := t
    have hsz := HS.out
    obtain ⟨hzb, hze⟩ := body_lt sk sl sc sn sw sx sy sb se sid ssl sot slo
    have hszb : SizeOf.sizeOf sb < n := by have := HSZ.out; omega
    have hsze : SizeOf.sizeOf se < n := by have := HSZ.out; omega
    have HZ2 := Lib.hid (And.intro hszb hsze)
    unfold stS at hR
    obtain ⟨mx, hmx⟩ : ∃ mx, exS sx tx = mx := ⟨_, rfl⟩
    obtain ⟨my, hmy⟩ : ∃ my, exS sy ty = my := ⟨_, rfl⟩
    obtain ⟨mb, hmb⟩ : ∃ mb, (decide (sb.length = tb.length) && stsS pl sb tb) = mb := ⟨_, rfl⟩
    obtain ⟨me, hme⟩ : ∃ me, (decide (se.length = te.length) && stsS pl se te) = me := ⟨_, rfl⟩
    rw [hmx, hmy, hmb, hme] at hR
    have HM := Lib.hid (And.intro hmx (And.intro hmy (And.intro hmb hme)))
    have HR3 := Lib.hid hR
    clear hR HR2 HS hsz hzb hze hszb hsze hmx hmy hmb hme hz5 hz6 hsD hb1 h1 h1' HLL HRg hl25 h1c hl25' h1c' hrB HS0
    obtain ⟨p0, p1, p2, p3, p4, hx, hy, ⟨ab, capb, p19, hbody⟩, ae, cape, p20, hels⟩ := T2.s.parts
    obtain ⟨r0, r1, r2, r3, r4, gx, gy, ⟨xb, xapb, r19, gbody⟩, xe, xape, r20, gels⟩ := T2.t.parts
    simp only [Nat.zero_add] at p0 p1 p2 p3 p4 p19 p20 hx hy r0 r1 r2 r3 r4 r19 r20 gx gy
    clear hy p19 hbody p20 hels gy r19 gbody r20 gels
    rcases neOr sk tk with hk | hk
    ·have hRf : R = false := by
      rw [← HR3.out]
      simp [hk]
     subst hRf
     have hbf := T2.b
     clear T2 HT2 hx gx
     go_wp2_with fail
     go_ret
     exact ⟨rfl, hbf⟩
    subst hk
    rcases neOr sn tn with hn2 | hn2
    ·have hRf : R = false := by
      rw [← HR3.out]
      simp [hn2]
     subst hRf
     have hs2 : ¬ sn.toList = tn.toList := fun e => hn2 (toListInj e)
     have hbf := T2.b
     clear T2 HT2 hx gx
     go_wp2_with fail
     go_ret
     exact ⟨rfl, hbf⟩
    subst hn2
    rcases neOr sw tw with hw2 | hw2
    ·have hRf : R = false := by
      rw [← HR3.out]
      simp [hw2]
     subst hRf
     have hs2 : ¬ sw.toList = tw.toList := fun e => hw2 (toListInj e)
     have hbf := T2.b
     clear T2 HT2 hx gx
     go_wp2_with fail
     go_ret
     exact ⟨rfl, hbf⟩
    subst hw2
    by_cases hpp : pl = true ∧ ¬ (sl = tl ∧ sc = tc)
    ·obtain ⟨rfl, hpp⟩ := hpp
     have hRf : R = false := by
      rw [← HR3.out]
      by_cases e1 : sl = tl
      ·have e2 : ¬ sc = tc := fun e2 => hpp ⟨e1, e2⟩
       simp [e2]
      ·simp [e1]
     subst hRf
     have hbf := T2.b
     clear T2 HT2 hx gx
     by_cases e1 : sl = tl
     ·have e2 : ¬ sc = tc := fun e2 => hpp ⟨e1, e2⟩
      subst e1
      clear hpp
      go_wp2_with fail
      go_ret
      exact ⟨rfl, hbf⟩
     ·clear hpp
      go_wp2_with fail
      go_ret
      exact ⟨rfl, hbf⟩
    have HR4 : Hid (((mx && (my && (mb && me))) && stsS pl (l.drop (i + 1)) (m.drop (i + 1))) = R) := Lib.hid (by
     have h := HR3.out
     cases pl
     ·simpa using h
     ·have h4 : sl = tl ∧ sc = tc := by
       by_cases h4 : sl = tl ∧ sc = tc
       ·exact h4
       ·exact absurd ⟨rfl, h4⟩ hpp
      simpa [h4.1, h4.2] using h)
    clear HR3
    obtain ⟨cx, hrx, hlx, hLx⟩ := ExL.at0 hx
    obtain ⟨dx, krx, klx, kLx⟩ := ExL.at0 gx
    have hcl := sameE_any sx.depth sx tx cx dx W2 (Nat.le_refl _) hLx kLx
    rw [HM.out.1] at hcl
    have HLX := Lib.hid (And.intro hrx krx)
    clear hx gx hLx kLx hrx krx T2
    cases pl
    ·have hplx : True := trivial
     clear hplx
     clear hpp
     go_wp2_with (first | ((with_reducible show wpList _ _ _ (Oper.mk _ (.load 46 (.tmp 59)) _ _ _ _ :: _) _ _); refine wpList_load_g rfl 46 (.tmp 59) rfl wr.heap.size 5 rfl cx d46 HLX.out.1 hu46 hr46 (by rw [hlx]; exact info46) ?_) | ((with_reducible show wpList _ _ _ (Oper.mk _ (.load 46 (.tmp 61)) _ _ _ _ :: _) _ _); refine wpList_load_g rfl 46 (.tmp 61) rfl (wr.heap.size + 1) 5 rfl dx d46 HLX.out.2 hu46 hr46 (by rw [klx]; exact info46) ?_))
     refine hcl.mono ?_
     rintro e W3 ⟨rfl, hb3⟩
     have T3 := HT2.out.below hb3
     clear hcl HT2 HLX hlx klx hb3 p0 p1 p2 p3 p4 r0 r1 r2 r3 r4
     cases mx
     ·have hRf : R = false := HR4.out.symm
      subst hRf
      have hbf := T3.b
      clear T3
      go_wp2_with fail
      go_ret
      exact ⟨rfl, hbf⟩
     obtain ⟨p0, p1, p2, p3, p4, hx, hy, ⟨ab, capb, p19, hbody⟩, ae, cape, p20, hels⟩ := T3.s.parts
     obtain ⟨r0, r1, r2, r3, r4, gx, gy, ⟨xb, xapb, r19, gbody⟩, xe, xape, r20, gels⟩ := T3.t.parts
     simp only [Nat.zero_add] at p0 p1 p2 p3 p4 p19 p20 hx hy r0 r1 r2 r3 r4 r19 r20 gx gy
     clear p0 p1 p2 p3 p4 hx p19 hbody p20 hels r0 r1 r2 r3 r4 gx r19 gbody r20 gels
     obtain ⟨cy, hry, hly, hLy⟩ := ExL.at0 hy
     obtain ⟨dy, kry, kly, kLy⟩ := ExL.at0 gy
     have hcl := sameE_any sy.depth sy ty cy dy W3 (Nat.le_refl _) hLy kLy
     rw [HM.out.2.1] at hcl
     have HLY := Lib.hid (And.intro hry kry)
     have HT3 := Lib.hid T3
     clear hy gy hLy kLy hry kry T3
     go_wp2_with (first | ((with_reducible show wpList _ _ _ (Oper.mk _ (.load 46 (.tmp 67)) _ _ _ _ :: _) _ _); refine wpList_load_g rfl 46 (.tmp 67) rfl wr.heap.size 12 rfl cy d46 HLY.out.1 hu46 hr46 (by rw [hly]; exact info46) ?_) | ((with_reducible show wpList _ _ _ (Oper.mk _ (.load 46 (.tmp 69)) _ _ _ _ :: _) _ _); refine wpList_load_g rfl 46 (.tmp 69) rfl (wr.heap.size + 1) 12 rfl dy d46 HLY.out.2 hu46 hr46 (by rw [kly]; exact info46) ?_))
     refine hcl.mono ?_
     rintro e W4 ⟨rfl, hb4⟩
     have T4 := HT3.out.below hb4
     clear hcl HT3 HLY hly kly hb4
     cases my
     ·have hRf : R = false := HR4.out.symm
      subst hRf
      have hbf := T4.b
      clear T4
      go_wp2_with fail
      go_ret
      exact ⟨rfl, hbf⟩
     obtain ⟨p0, p1, p2, p3, p4, hx, hy, ⟨ab, capb, p19, hbody⟩, ae, cape, p20, hels⟩ := T4.s.parts
     obtain ⟨r0, r1, r2, r3, r4, gx, gy, ⟨xb, xapb, r19, gbody⟩, xe, xape, r20, gels⟩ := T4.t.parts
     simp only [Nat.zero_add] at p0 p1 p2 p3 p4 p19 p20 hx hy r0 r1 r2 r3 r4 r19 r20 gx gy
     clear p0 p1 p2 p3 p4 hx hy p20 hels r0 r1 r2 r3 r4 gx gy r20 gels
     have hcl := ih sb tb ab xb capb xapb W4 HZ2.out.1 hbody gbody
     rw [HM.out.2.2.1] at hcl
     have HT4 := Lib.hid T4
     clear hbody gbody T4
     go_wp2_with fail
     refine hcl.mono ?_
     rintro e W5 ⟨rfl, hb5⟩
     have T5 := HT4.out.below hb5
     clear hcl HT4 hb5 p19 r19
     cases mb
     ·have hRf : R = false := HR4.out.symm
      subst hRf
      have hbf := T5.b
      clear T5
      go_wp2_with fail
      go_ret
      exact ⟨rfl, hbf⟩
     obtain ⟨p0, p1, p2, p3, p4, hx, hy, ⟨ab, capb, p19, hbody⟩, ae, cape, p20, hels⟩ := T5.s.parts
     obtain ⟨r0, r1, r2, r3, r4, gx, gy, ⟨xb, xapb, r19, gbody⟩, xe, xape, r20, gels⟩ := T5.t.parts
     simp only [Nat.zero_add] at p0 p1 p2 p3 p4 p19 p20 hx hy r0 r1 r2 r3 r4 r19 r20 gx gy
     clear p0 p1 p2 p3 p4 hx hy p19 hbody r0 r1 r2 r3 r4 gx gy r19 gbody
     have hcl := ih se te ae xe cape xape W5 HZ2.out.2 hels gels
     rw [HM.out.2.2.2] at hcl
     have HT5 := Lib.hid T5
     clear hels gels T5
     go_wp2_with fail
     refine hcl.mono ?_
     rintro e W6 ⟨rfl, hb6⟩
     have T6 := HT5.out.below hb6
     clear hcl HT5 hb6 p20 r20
     cases me
     ·have hRf : R = false := HR4.out.symm
      subst hRf
      have hbf := T6.b
      clear T6
      go_wp2_with fail
      go_ret
      exact ⟨rfl, hbf⟩
     have HR6 : Hid (stsS false (l.drop (i + 1)) (m.drop (i + 1)) = R) := Lib.hid HR4.out
     have HE6 := Lib.hid (And.intro T6.b (And.intro T6.l T6.m))
     clear T6 HR4
     go_wp2_with fail
     go_roundg (N - (i + 1))
     case measure => omega
     case rel => exact ⟨i + 1, by omega, rfl, rfl, HE6, HR6⟩
    ·have hplx : True := trivial
     clear hplx
     have h4 : sl = tl ∧ sc = tc := by
      by_cases h4 : sl = tl ∧ sc = tc
      ·exact h4
      ·exact absurd ⟨rfl, h4⟩ hpp
     obtain ⟨e1, e2⟩ := h4
     subst e1
     subst e2
     clear hpp
     go_wp2_with (first | ((with_reducible show wpList _ _ _ (Oper.mk _ (.load 46 (.tmp 59)) _ _ _ _ :: _) _ _); refine wpList_load_g rfl 46 (.tmp 59) rfl wr.heap.size 5 rfl cx d46 HLX.out.1 hu46 hr46 (by rw [hlx]; exact info46) ?_) | ((with_reducible show wpList _ _ _ (Oper.mk _ (.load 46 (.tmp 61)) _ _ _ _ :: _) _ _); refine wpList_load_g rfl 46 (.tmp 61) rfl (wr.heap.size + 1) 5 rfl dx d46 HLX.out.2 hu46 hr46 (by rw [klx]; exact info46) ?_))
     refine hcl.mono ?_
     rintro e W3 ⟨rfl, hb3⟩
     have T3 := HT2.out.below hb3
     clear hcl HT2 HLX hlx klx hb3 p0 p1 p2 p3 p4 r0 r1 r2 r3 r4
     cases mx
     ·have hRf : R = false := HR4.out.symm
      subst hRf
      have hbf := T3.b
      clear T3
      go_wp2_with fail
      go_ret
      exact ⟨rfl, hbf⟩
     obtain ⟨p0, p1, p2, p3, p4, hx, hy, ⟨ab, capb, p19, hbody⟩, ae, cape, p20, hels⟩ := T3.s.parts
     obtain ⟨r0, r1, r2, r3, r4, gx, gy, ⟨xb, xapb, r19, gbody⟩, xe, xape, r20, gels⟩ := T3.t.parts
     simp only [Nat.zero_add] at p0 p1 p2 p3 p4 p19 p20 hx hy r0 r1 r2 r3 r4 r19 r20 gx gy
     clear p0 p1 p2 p3 p4 hx p19 hbody p20 hels r0 r1 r2 r3 r4 gx r19 gbody r20 gels
     obtain ⟨cy, hry, hly, hLy⟩ := ExL.at0 hy
     obtain ⟨dy, kry, kly, kLy⟩ := ExL.at0 gy
     have hcl := sameE_any sy.depth sy ty cy dy W3 (Nat.le_refl _) hLy kLy
     rw [HM.out.2.1] at hcl
     have HLY := Lib.hid (And.intro hry kry)
     have HT3 := Lib.hid T3
     clear hy gy hLy kLy hry kry T3
     go_wp2_with (first | ((with_reducible show wpList _ _ _ (Oper.mk _ (.load 46 (.tmp 67)) _ _ _ _ :: _) _ _); refine wpList_load_g rfl 46 (.tmp 67) rfl wr.heap.size 12 rfl cy d46 HLY.out.1 hu46 hr46 (by rw [hly]; exact info46) ?_) | ((with_reducible show wpList _ _ _ (Oper.mk _ (.load 46 (.tmp 69)) _ _ _ _ :: _) _ _); refine wpList_load_g rfl 46 (.tmp 69) rfl (wr.heap.size + 1) 12 rfl dy d46 HLY.out.2 hu46 hr46 (by rw [kly]; exact info46) ?_))
     refine hcl.mono ?_
     rintro e W4 ⟨rfl, hb4⟩
     have T4 := HT3.out.below hb4
     clear hcl HT3 HLY hly kly hb4
     cases my
     ·have hRf : R = false := HR4.out.symm
      subst hRf
      have hbf := T4.b
      clear T4
      go_wp2_with fail
      go_ret
      exact ⟨rfl, hbf⟩
     obtain ⟨p0, p1, p2, p3, p4, hx, hy, ⟨ab, capb, p19, hbody⟩, ae, cape, p20, hels⟩ := T4.s.parts
     obtain ⟨r0, r1, r2, r3, r4, gx, gy, ⟨xb, xapb, r19, gbody⟩, xe, xape, r20, gels⟩ := T4.t.parts
     simp only [Nat.zero_add] at p0 p1 p2 p3 p4 p19 p20 hx hy r0 r1 r2 r3 r4 r19 r20 gx gy
     clear p0 p1 p2 p3 p4 hx hy p20 hels r0 r1 r2 r3 r4 gx gy r20 gels
     have hcl := ih sb tb ab xb capb xapb W4 HZ2.out.1 hbody gbody
     rw [HM.out.2.2.1] at hcl
     have HT4 := Lib.hid T4
     clear hbody gbody T4
     go_wp2_with fail
     refine hcl.mono ?_
     rintro e W5 ⟨rfl, hb5⟩
     have T5 := HT4.out.below hb5
     clear hcl HT4 hb5 p19 r19
     cases mb
     ·have hRf : R = false := HR4.out.symm
      subst hRf
      have hbf := T5.b
      clear T5
      go_wp2_with fail
      go_ret
      exact ⟨rfl, hbf⟩
     obtain ⟨p0, p1, p2, p3, p4, hx, hy, ⟨ab, capb, p19, hbody⟩, ae, cape, p20, hels⟩ := T5.s.parts
     obtain ⟨r0, r1, r2, r3, r4, gx, gy, ⟨xb, xapb, r19, gbody⟩, xe, xape, r20, gels⟩ := T5.t.parts
     simp only [Nat.zero_add] at p0 p1 p2 p3 p4 p19 p20 hx hy r0 r1 r2 r3 r4 r19 r20 gx gy
     clear p0 p1 p2 p3 p4 hx hy p19 hbody r0 r1 r2 r3 r4 gx gy r19 gbody
     have hcl := ih se te ae xe cape xape W5 HZ2.out.2 hels gels
     rw [HM.out.2.2.2] at hcl
     have HT5 := Lib.hid T5
     clear hels gels T5
     go_wp2_with fail
     refine hcl.mono ?_
     rintro e W6 ⟨rfl, hb6⟩
     have T6 := HT5.out.below hb6
     clear hcl HT5 hb6 p20 r20
     cases me
     ·have hRf : R = false := HR4.out.symm
      subst hRf
      have hbf := T6.b
      clear T6
      go_wp2_with fail
      go_ret
      exact ⟨rfl, hbf⟩
     have HR6 : Hid (stsS true (l.drop (i + 1)) (m.drop (i + 1)) = R) := Lib.hid HR4.out
     have HE6 := Lib.hid (And.intro T6.b (And.intro T6.l T6.m))
     clear T6 HR4
     go_wp2_with fail
     go_roundg (N - (i + 1))
     case measure => omega
     case rel => exact ⟨i + 1, by omega, rfl, rfl, HE6, HR6⟩
   ·obtain ⟨W0, hW0⟩ : ∃ W0, ((wr.alloc (.cells zSt 64)).alloc (.cells zSt 64)).drew = W0 := ⟨_, rfl⟩
    have hsA : Below wr.heap.size wr (wr.drew.alloc (.cells zSt 64)) := (Below.refl _ wr).drew.alloc (Nat.le_refl _) _
    have hsB : Below wr.heap.size wr W0 := by
     rw [← hW0]
     exact (((Below.refl _ wr).alloc (Nat.le_refl _) _).alloc (by simp) _).drew
    have hz1 : Blk W0 wr.heap.size 64 zSt.toList := by
     rw [← hW0]
     exact ((Blk.new wr 64 zSt.toList).alloc (.cells zSt 64)).drew
    have hz2 : Blk W0 (wr.heap.size + 1) 64 zSt.toList := by
     rw [← hW0]
     have := Blk.new (wr.alloc (.cells zSt 64)) 64 zSt.toList
     rw [show (wr.alloc (.cells zSt 64)).heap.size = wr.heap.size + 1 by simp] at this
     exact this.drew
    unfold zSt at hW0
    go_simp
    refine hK _ _ (fun _ => hsA) ?_
    clear hK K
    refine wpX_one 8 (by kernel_rfl) rfl (fun K hK => ?_)
    go_simp
    refine hK _ _ (fun _ => hsB) ?_
    clear hK K hW0
    refine wpX_one 10 (by kernel_rfl) rfl (fun K hK => ?_)
    refine step_store_blk info64 rfl (.tmp 8) (.tmp 24) rfl (wr.heap.size + 1) cs zSt.toList rfl rfl hz2 rfl hl25 h1c ?_
    have hsC := below_cells (r := (wr.heap.size + 1)) (by omega) cs 0 hsB
    have hz3 : Blk (W0.setCells (wr.heap.size + 1) 0 cs) (wr.heap.size + 1) 64 cs := hz2.putAll (by rw [hl25]; rfl)
    have hz4 : Blk (W0.setCells (wr.heap.size + 1) 0 cs) wr.heap.size 64 zSt.toList := hz1.of (heap_setCells (by omega) cs 0 W0)
    refine hK _ _ (fun _ => hsC) ?_
    clear hK K hz1 hz2 hsB
    generalize W0.setCells (wr.heap.size + 1) 0 cs = W1 at *
    refine wpX_one 11 (by kernel_rfl) rfl (fun K hK => ?_)
    refine step_store_blk info64 rfl (.tmp 9) (.tmp 28) rfl wr.heap.size ds zSt.toList rfl rfl hz4 rfl hl25' h1c' ?_
    have hsD := below_cells (r := wr.heap.size) (by omega) ds 0 hsC
    have hz5 : Blk (W1.setCells wr.heap.size 0 ds) wr.heap.size 64 ds := hz4.putAll (by rw [hl25']; rfl)
    have hz6 : Blk (W1.setCells wr.heap.size 0 ds) (wr.heap.size + 1) 64 cs := hz3.of (heap_setCells (by omega) ds 0 W1)
    refine hK _ _ (fun h => by cases h) ?_
    clear hK K hz3 hz4 hsC
    generalize W1.setCells wr.heap.size 0 ds = W2 at *
    refine wpX_done (by kernel_rfl) ?_ _
    have T2 : Two w W2 (wr.heap.size + 1) wr.heap.size (some ⟨b2, off2, none⟩) (some ⟨b3, off3, none⟩) cap cap' l m s t := ⟨hb1.trans (hsD.mono hb1.size), h1.below hsD, h1'.below hsD, ⟨cs, hz6.whole, HLL.out.1.below hsD⟩, ds, hz5.whole, HLL.out.2.below hsD⟩
    have hR := HR2.out
    have HT2 := Lib.hid T2
    obtain ⟨sk, sl, sc, sn, sw, sx, sy, sb, se, sid, ssl, sot, slo⟩ := s
    obtain ⟨tk, tl, tc, tn, tw, tx, ty, tb, te, tid, tsl, tot, tlo⟩ := t
    have hsz := HS.out
    obtain ⟨hzb, hze⟩ := body_lt sk sl sc sn sw sx sy sb se sid ssl sot slo
    have hszb : SizeOf.sizeOf sb < n := by have := HSZ.out; omega
    have hsze : SizeOf.sizeOf se < n := by have := HSZ.out; omega
    have HZ2 := Lib.hid (And.intro hszb hsze)
    unfold stS at hR
    obtain ⟨mx, hmx⟩ : ∃ mx, exS sx tx = mx := ⟨_, rfl⟩
    obtain ⟨my, hmy⟩ : ∃ my, exS sy ty = my := ⟨_, rfl⟩
    obtain ⟨mb, hmb⟩ : ∃ mb, (decide (sb.length = tb.length) && stsS pl sb tb) = mb := ⟨_, rfl⟩
    obtain ⟨me, hme⟩ : ∃ me, (decide (se.length = te.length) && stsS pl se te) = me := ⟨_, rfl⟩
    rw [hmx, hmy, hmb, hme] at hR
    have HM := Lib.hid (And.intro hmx (And.intro hmy (And.intro hmb hme)))
    have HR3 := Lib.hid hR
    clear hR HR2 HS hsz hzb hze hszb hsze hmx hmy hmb hme hz5 hz6 hsD hb1 h1 h1' HLL HRg hl25 h1c hl25' h1c' hrB HS0
    obtain ⟨p0, p1, p2, p3, p4, hx, hy, ⟨ab, capb, p19, hbody⟩, ae, cape, p20, hels⟩ := T2.s.parts
    obtain ⟨r0, r1, r2, r3, r4, gx, gy, ⟨xb, xapb, r19, gbody⟩, xe, xape, r20, gels⟩ := T2.t.parts
    simp only [Nat.zero_add] at p0 p1 p2 p3 p4 p19 p20 hx hy r0 r1 r2 r3 r4 r19 r20 gx gy
    clear hy p19 hbody p20 hels gy r19 gbody r20 gels
    rcases neOr sk tk with hk | hk
    ·have hRf : R = false := by
      rw [← HR3.out]
      simp [hk]
     subst hRf
     have hbf := T2.b
     clear T2 HT2 hx gx
     go_wp2_with fail
     go_ret
     exact ⟨rfl, hbf⟩
    subst hk
    rcases neOr sn tn with hn2 | hn2
    ·have hRf : R = false := by
      rw [← HR3.out]
      simp [hn2]
     subst hRf
     have hs2 : ¬ sn.toList = tn.toList := fun e => hn2 (toListInj e)
     have hbf := T2.b
     clear T2 HT2 hx gx
     go_wp2_with fail
     go_ret
     exact ⟨rfl, hbf⟩
    subst hn2
    rcases neOr sw tw with hw2 | hw2
    ·have hRf : R = false := by
      rw [← HR3.out]
      simp [hw2]
     subst hRf
     have hs2 : ¬ sw.toList = tw.toList := fun e => hw2 (toListInj e)
     have hbf := T2.b
     clear T2 HT2 hx gx
     go_wp2_with fail
     go_ret
     exact ⟨rfl, hbf⟩
    subst hw2
    by_cases hpp : pl = true ∧ ¬ (sl = tl ∧ sc = tc)
    ·obtain ⟨rfl, hpp⟩ := hpp
     have hRf : R = false := by
      rw [← HR3.out]
      by_cases e1 : sl = tl
      ·have e2 : ¬ sc = tc := fun e2 => hpp ⟨e1, e2⟩
       simp [e2]
      ·simp [e1]
     subst hRf
     have hbf := T2.b
     clear T2 HT2 hx gx
     by_cases e1 : sl = tl
     ·have e2 : ¬ sc = tc := fun e2 => hpp ⟨e1, e2⟩
      subst e1
      clear hpp
      go_wp2_with fail
      go_ret
      exact ⟨rfl, hbf⟩
     ·clear hpp
      go_wp2_with fail
      go_ret
      exact ⟨rfl, hbf⟩
    have HR4 : Hid (((mx && (my && (mb && me))) && stsS pl (l.drop (i + 1)) (m.drop (i + 1))) = R) := Lib.hid (by
     have h := HR3.out
     cases pl
     ·simpa using h
     ·have h4 : sl = tl ∧ sc = tc := by
       by_cases h4 : sl = tl ∧ sc = tc
       ·exact h4
       ·exact absurd ⟨rfl, h4⟩ hpp
      simpa [h4.1, h4.2] using h)
    clear HR3
    obtain ⟨cx, hrx, hlx, hLx⟩ := ExL.at0 hx
    obtain ⟨dx, krx, klx, kLx⟩ := ExL.at0 gx
    have hcl := sameE_any sx.depth sx tx cx dx W2 (Nat.le_refl _) hLx kLx
    rw [HM.out.1] at hcl
    have HLX := Lib.hid (And.intro hrx krx)
    clear hx gx hLx kLx hrx krx T2
    cases pl
    ·have hplx : True := trivial
     clear hplx
     clear hpp
     go_wp2_with (first | ((with_reducible show wpList _ _ _ (Oper.mk _ (.load 46 (.tmp 59)) _ _ _ _ :: _) _ _); refine wpList_load_g rfl 46 (.tmp 59) rfl (wr.heap.size + 1) 5 rfl cx d46 HLX.out.1 hu46 hr46 (by rw [hlx]; exact info46) ?_) | ((with_reducible show wpList _ _ _ (Oper.mk _ (.load 46 (.tmp 61)) _ _ _ _ :: _) _ _); refine wpList_load_g rfl 46 (.tmp 61) rfl wr.heap.size 5 rfl dx d46 HLX.out.2 hu46 hr46 (by rw [klx]; exact info46) ?_))
     refine hcl.mono ?_
     rintro e W3 ⟨rfl, hb3⟩
     have T3 := HT2.out.below hb3
     clear hcl HT2 HLX hlx klx hb3 p0 p1 p2 p3 p4 r0 r1 r2 r3 r4
     cases mx
     ·have hRf : R = false := HR4.out.symm
      subst hRf
      have hbf := T3.b
      clear T3
      go_wp2_with fail
      go_ret
      exact ⟨rfl, hbf⟩
     obtain ⟨p0, p1, p2, p3, p4, hx, hy, ⟨ab, capb, p19, hbody⟩, ae, cape, p20, hels⟩ := T3.s.parts
     obtain ⟨r0, r1, r2, r3, r4, gx, gy, ⟨xb, xapb, r19, gbody⟩, xe, xape, r20, gels⟩ := T3.t.parts
     simp only [Nat.zero_add] at p0 p1 p2 p3 p4 p19 p20 hx hy r0 r1 r2 r3 r4 r19 r20 gx gy
     clear p0 p1 p2 p3 p4 hx p19 hbody p20 hels r0 r1 r2 r3 r4 gx r19 gbody r20 gels
     obtain ⟨cy, hry, hly, hLy⟩ := ExL.at0 hy
     obtain ⟨dy, kry, kly, kLy⟩ := ExL.at0 gy
     have hcl := sameE_any sy.depth sy ty cy dy W3 (Nat.le_refl _) hLy kLy
     rw [HM.out.2.1] at hcl
     have HLY := Lib.hid (And.intro hry kry)
     have HT3 := Lib.hid T3
     clear hy gy hLy kLy hry kry T3
     go_wp2_with (first | ((with_reducible show wpList _ _ _ (Oper.mk _ (.load 46 (.tmp 67)) _ _ _ _ :: _) _ _); refine wpList_load_g rfl 46 (.tmp 67) rfl (wr.heap.size + 1) 12 rfl cy d46 HLY.out.1 hu46 hr46 (by rw [hly]; exact info46) ?_) | ((with_reducible show wpList _ _ _ (Oper.mk _ (.load 46 (.tmp 69)) _ _ _ _ :: _) _ _); refine wpList_load_g rfl 46 (.tmp 69) rfl wr.heap.size 12 rfl dy d46 HLY.out.2 hu46 hr46 (by rw [kly]; exact info46) ?_))
     refine hcl.mono ?_
     rintro e W4 ⟨rfl, hb4⟩
     have T4 := HT3.out.below hb4
     clear hcl HT3 HLY hly kly hb4
     cases my
     ·have hRf : R = false := HR4.out.symm
      subst hRf
      have hbf := T4.b
      clear T4
      go_wp2_with fail
      go_ret
      exact ⟨rfl, hbf⟩
     obtain ⟨p0, p1, p2, p3, p4, hx, hy, ⟨ab, capb, p19, hbody⟩, ae, cape, p20, hels⟩ := T4.s.parts
     obtain ⟨r0, r1, r2, r3, r4, gx, gy, ⟨xb, xapb, r19, gbody⟩, xe, xape, r20, gels⟩ := T4.t.parts
     simp only [Nat.zero_add] at p0 p1 p2 p3 p4 p19 p20 hx hy r0 r1 r2 r3 r4 r19 r20 gx gy
     clear p0 p1 p2 p3 p4 hx hy p20 hels r0 r1 r2 r3 r4 gx gy r20 gels
     have hcl := ih sb tb ab xb capb xapb W4 HZ2.out.1 hbody gbody
     rw [HM.out.2.2.1] at hcl
     have HT4 := Lib.hid T4
     clear hbody gbody T4
     go_wp2_with fail
     refine hcl.mono ?_
     rintro e W5 ⟨rfl, hb5⟩
     have T5 := HT4.out.below hb5
     clear hcl HT4 hb5 p19 r19
     cases mb
     ·have hRf : R = false := HR4.out.symm
      subst hRf
      have hbf := T5.b
      clear T5
      go_wp2_with fail
      go_ret
      exact ⟨rfl, hbf⟩
     obtain ⟨p0, p1, p2, p3, p4, hx, hy, ⟨ab, capb, p19, hbody⟩, ae, cape, p20, hels⟩ := T5.s.parts
     obtain ⟨r0, r1, r2, r3, r4, gx, gy, ⟨xb, xapb, r19, gbody⟩, xe, xape, r20, gels⟩ := T5.t.parts
     simp only [Nat.zero_add] at p0 p1 p2 p3 p4 p19 p20 hx hy r0 r1 r2 r3 r4 r19 r20 gx gy
     clear p0 p1 p2 p3 p4 hx hy p19 hbody r0 r1 r2 r3 r4 gx gy r19 gbody
     have hcl := ih se te ae xe cape xape W5 HZ2.out.2 hels gels
     rw [HM.out.2.2.2] at hcl
     have HT5 := Lib.hid T5
     clear hels gels T5
     go_wp2_with fail
     refine hcl.mono ?_
     rintro e W6 ⟨rfl, hb6⟩
     have T6 := HT5.out.below hb6
     clear hcl HT5 hb6 p20 r20
     cases me
     ·have hRf : R = false := HR4.out.symm
      subst hRf
      have hbf := T6.b
      clear T6
      go_wp2_with fail
      go_ret
      exact ⟨rfl, hbf⟩
     have HR6 : Hid (stsS false (l.drop (i + 1)) (m.drop (i + 1)) = R) := Lib.hid HR4.out
     have HE6 := Lib.hid (And.intro T6.b (And.intro T6.l T6.m))
     clear T6 HR4
     go_wp2_with fail
     go_roundg (N - (i + 1))
     case measure => omega
     case rel => exact ⟨i + 1, by omega, rfl, rfl, HE6, HR6⟩
    ·have hplx : True := trivial
     clear hplx
     have h4 : sl = tl ∧ sc = tc := by
      by_cases h4 : sl = tl ∧ sc = tc
      ·exact h4
      ·exact absurd ⟨rfl, h4⟩ hpp
     obtain ⟨e1, e2⟩ := h4
     subst e1
     subst e2
     clear hpp
     go_wp2_with (first | ((with_reducible show wpList _ _ _ (Oper.mk _ (.load 46 (.tmp 59)) _ _ _ _ :: _) _ _); refine wpList_load_g rfl 46 (.tmp 59) rfl (wr.heap.size + 1) 5 rfl cx d46 HLX.out.1 hu46 hr46 (by rw [hlx]; exact info46) ?_) | ((with_reducible show wpList _ _ _ (Oper.mk _ (.load 46 (.tmp 61)) _ _ _ _ :: _) _ _); refine wpList_load_g rfl 46 (.tmp 61) rfl wr.heap.size 5 rfl dx d46 HLX.out.2 hu46 hr46 (by rw [klx]; exact info46) ?_))
     refine hcl.mono ?_
     rintro e W3 ⟨rfl, hb3⟩
     have T3 := HT2.out.below hb3
     clear hcl HT2 HLX hlx klx hb3 p0 p1 p2 p3 p4 r0 r1 r2 r3 r4
     cases mx
     ·have hRf : R = false := HR4.out.symm
      subst hRf
      have hbf := T3.b
      clear T3
      go_wp2_with fail
      go_ret
      exact ⟨rfl, hbf⟩
     obtain ⟨p0, p1, p2, p3, p4, hx, hy, ⟨ab, capb, p19, hbody⟩, ae, cape, p20, hels⟩ := T3.s.parts
     obtain ⟨r0, r1, r2, r3, r4, gx, gy, ⟨xb, xapb, r19, gbody⟩, xe, xape, r20, gels⟩ := T3.t.parts
     simp only [Nat.zero_add] at p0 p1 p2 p3 p4 p19 p20 hx hy r0 r1 r2 r3 r4 r19 r20 gx gy
     clear p0 p1 p2 p3 p4 hx p19 hbody p20 hels r0 r1 r2 r3 r4 gx r19 gbody r20 gels
     obtain ⟨cy, hry, hly, hLy⟩ := ExL.at0 hy
     obtain ⟨dy, kry, kly, kLy⟩ := ExL.at0 gy
     have hcl := sameE_any sy.depth sy ty cy dy W3 (Nat.le_refl _) hLy kLy
     rw [HM.out.2.1] at hcl
     have HLY := Lib.hid (And.intro hry kry)
     have HT3 := Lib.hid T3
     clear hy gy hLy kLy hry kry T3
     go_wp2_with (first | ((with_reducible show wpList _ _ _ (Oper.mk _ (.load 46 (.tmp 67)) _ _ _ _ :: _) _ _); refine wpList_load_g rfl 46 (.tmp 67) rfl (wr.heap.size + 1) 12 rfl cy d46 HLY.out.1 hu46 hr46 (by rw [hly]; exact info46) ?_) | ((with_reducible show wpList _ _ _ (Oper.mk _ (.load 46 (.tmp 69)) _ _ _ _ :: _) _ _); refine wpList_load_g rfl 46 (.tmp 69) rfl wr.heap.size 12 rfl dy d46 HLY.out.2 hu46 hr46 (by rw [kly]; exact info46) ?_))
     refine hcl.mono ?_
     rintro e W4 ⟨rfl, hb4⟩
     have T4 := HT3.out.below hb4
     clear hcl HT3 HLY hly kly hb4
     cases my
     ·have hRf : R = false := HR4.out.symm
      subst hRf
      have hbf := T4.b
      clear T4
      go_wp2_with fail
      go_ret
      exact ⟨rfl, hbf⟩
     obtain ⟨p0, p1, p2, p3, p4, hx, hy, ⟨ab, capb, p19, hbody⟩, ae, cape, p20, hels⟩ := T4.s.parts
     obtain ⟨r0, r1, r2, r3, r4, gx, gy, ⟨xb, xapb, r19, gbody⟩, xe, xape, r20, gels⟩ := T4.t.parts
     simp only [Nat.zero_add] at p0 p1 p2 p3 p4 p19 p20 hx hy r0 r1 r2 r3 r4 r19 r20 gx gy
     clear p0 p1 p2 p3 p4 hx hy p20 hels r0 r1 r2 r3 r4 gx gy r20 gels
     have hcl := ih sb tb ab xb capb xapb W4 HZ2.out.1 hbody gbody
     rw [HM.out.2.2.1] at hcl
     have HT4 := Lib.hid T4
     clear hbody gbody T4
     go_wp2_with fail
     refine hcl.mono ?_
     rintro e W5 ⟨rfl, hb5⟩
     have T5 := HT4.out.below hb5
     clear hcl HT4 hb5 p19 r19
     cases mb
     ·have hRf : R = false := HR4.out.symm
      subst hRf
      have hbf := T5.b
      clear T5
      go_wp2_with fail
      go_ret
      exact ⟨rfl, hbf⟩
     obtain ⟨p0, p1, p2, p3, p4, hx, hy, ⟨ab, capb, p19, hbody⟩, ae, cape, p20, hels⟩ := T5.s.parts
     obtain ⟨r0, r1, r2, r3, r4, gx, gy, ⟨xb, xapb, r19, gbody⟩, xe, xape, r20, gels⟩ := T5.t.parts
     simp only [Nat.zero_add] at p0 p1 p2 p3 p4 p19 p20 hx hy r0 r1 r2 r3 r4 r19 r20 gx gy
     clear p0 p1 p2 p3 p4 hx hy p19 hbody r0 r1 r2 r3 r4 gx gy r19 gbody
     have hcl := ih se te ae xe cape xape W5 HZ2.out.2 hels gels
     rw [HM.out.2.2.2] at hcl
     have HT5 := Lib.hid T5
     clear hels gels T5
     go_wp2_with fail
     refine hcl.mono ?_
     rintro e W6 ⟨rfl, hb6⟩
     have T6 := HT5.out.below hb6
     clear hcl HT5 hb6 p20 r20
     cases me
     ·have hRf : R = false := HR4.out.symm
      subst hRf
      have hbf := T6.b
      clear T6
      go_wp2_with fail
      go_ret
      exact ⟨rfl, hbf⟩
     have HR6 : Hid (stsS true (l.drop (i + 1)) (m.drop (i + 1)) = R) := Lib.hid HR4.out
     have HE6 := Lib.hid (And.intro T6.b (And.intro T6.l T6.m))
     clear T6 HR4
     go_wp2_with fail
     go_roundg (N - (i + 1))
     case measure => omega
     case rel => exact ⟨i + 1, by omega, rfl, rfl, HE6, HR6⟩
  ·obtain rfl : i = N := by omega
   have hlt : ¬ (i : Int) < (i : Int) := by omega
   have hRt : R = true := by
    rw [← HR.out, List.drop_eq_nil_of_le (by rw [HN.out]; exact Nat.le_refl _)]
    rfl
   subst hRt
   clear h1 h1' HE
   go_wp2_with fail
   go_ret
   exact ⟨rfl, hb1⟩
theorem samS_any (pl : Bool) : ∀ n, SamOk pl n
 | 0 => fun _ _ _ _ _ _ _ h => absurd h (Nat.not_lt_zero _)
 | n + 1 => samS_step pl n (samS_any pl n)
end Go.Proofs.YtjmlmelcppbefaaGreatDoor
namespace Go.Proofs.YtjmlmelcppbefaaGreatDoor
open Go.RowKit Go.Maps
def desQ (pl : Bool) (l m : List De) : Bool := (l.zip m).all fun p => deS pl p.1 p.2
theorem desQ_drop {pl : Bool} {l m : List De} {i : Nat} (h : i < l.length) (h' : i < m.length) : desQ pl (l.drop i) (m.drop i) = (deS pl (l.getD i default) (m.getD i default) && desQ pl (l.drop (i + 1)) (m.drop (i + 1))) := by
 unfold desQ
 rw [List.drop_eq_getElem_cons h, List.drop_eq_getElem_cons h', List.zip_cons_cons, List.all_cons]
 simp [List.getD_eq_getElem?_getD, h, h']
theorem DesL.below {w w' : World} {a : Option Addr} {l : List De} (h : DesL (fun _ => True) w a l) (hb : Below w.heap.size w w') : DesL (fun _ => True) w' a l :=
 h.keep (fun b o v _ hv => by rw [← hv]; simp [World.cell?, hb.block b (World.block_lt_of_cell? w _ hv)])
set_option maxRecDepth 100000 in
set_option maxHeartbeats 16000000 in
theorem rsame2_any (pl : Bool) (l m : List De) (a a' : Option Addr) (cap cap' : Nat) (w : World) (hc : Roomy l.length cap) (hc' : Roomy m.length cap') (h : DesL (fun _ => True) w a l) (h' : DesL (fun _ => True) w a' m) :
  Calls Tryz.prog 18 #[.slice a l.length cap, .slice a' m.length cap', .bool pl] w fun e w' => e = .returned (.bool (desS pl l m)) ∧ Below w.heap.size w w' := by
 unfold desS
 obtain ⟨N, hN⟩ : ∃ N, l.length = N := ⟨_, rfl⟩
 obtain ⟨N', hN'⟩ : ∃ N', m.length = N' := ⟨_, rfl⟩
 rw [hN] at hc ⊢
 rw [hN'] at hc' ⊢
 have HN := Lib.hid hN
 have HN' := Lib.hid hN'
 clear hN hN'
 rcases neOr N N' with hNN | hNN
 ·rw [decide_eq_false hNN, Bool.false_and]
  have hNN2 : ¬ (N : Int) = (N' : Int) := by omega
  go_enter Tryz.func18, Tryz.ntmps18
  go_wp2_with fail
  go_ret
  exact ⟨rfl, Below.refl _ w⟩
 subst hNN
 rw [decide_eq_true rfl, Bool.true_and]
 obtain ⟨R, hR⟩ : ∃ R, desQ pl (l.drop 0) (m.drop 0) = R := ⟨_, rfl⟩
 rw [show ((l.zip m).all fun p => deS pl p.1 p.2) = R from hR]
 have HR := Lib.hid hR
 have HE := Lib.hid (And.intro (Below.refl w.heap.size w) (And.intro h h'))
 clear hR h h'
 go_enter Tryz.func18, Tryz.ntmps18
 go_wp2_with fail
 go_loopg [7] N (fun x iv wr => ∃ i : Nat, i ≤ N ∧ x = N - i ∧ iv = .int .i64 (i : Int) ∧ Hid (Below w.heap.size w wr ∧ DesL (fun _ => True) wr a l ∧ DesL (fun _ => True) wr a' m) ∧ Hid (desQ pl (l.drop i) (m.drop i) = R))
 case atStart => exact ⟨0, Nat.zero_le _, rfl, rfl, HE, HR⟩
 case round =>
  clear HE HR
  obtain ⟨i, hi, rfl, rfl, HE, HR⟩ := hrel
  obtain ⟨hb1, h1, h1'⟩ := HE.out
  by_cases hiN : i < N
  ·have hlt : (i : Int) < (N : Int) := by omega
   have hp0 : (0 : Int) ≤ (i : Int) := by omega
   have hroom2 : (i : Int) + 1 ≤ 9223372036854775807 := by
    have h1 := hc.1
    have h2 := hc.2
    omega
   have hR := HR.out
   rw [desQ_drop (by rw [HN.out]; exact hiN) (by rw [HN'.out]; exact hiN)] at hR
   obtain ⟨b2, off2, cs, rfl, -, hcs, hdl⟩ := h1 i (by rw [HN.out]; exact hiN)
   obtain ⟨b3, off3, ds, rfl, -, hds, hel⟩ := h1' i (by rw [HN'.out]; exact hiN)
   obtain ⟨d, hd⟩ : ∃ d, l.getD i default = d := ⟨_, rfl⟩
   obtain ⟨e, he⟩ : ∃ e, m.getD i default = e := ⟨_, rfl⟩
   rw [hd] at hdl hR
   rw [he] at hel hR
   obtain ⟨dk, dl, dc, dn, du, db⟩ := d
   obtain ⟨ek, el, ec, en, eu, eb⟩ := e
   obtain ⟨ab, capb, rfl, hrb, hsb⟩ := hdl
   obtain ⟨xb, xapb, rfl, hrx, hsx⟩ := hel
   have x0 := hcs 0 _ rfl
   have x1 := hcs 1 _ rfl
   have x2 := hcs 2 _ rfl
   have x3 := hcs 3 _ rfl
   have x4 := hcs 4 _ rfl
   have x5 := hcs 5 _ rfl
   have y0 := hds 0 _ rfl
   have y1 := hds 1 _ rfl
   have y2 := hds 2 _ rfl
   have y3 := hds 3 _ rfl
   have y4 := hds 4 _ rfl
   have y5 := hds 5 _ rfl
   dsimp only [Nat.add_zero] at x0 x1 x2 x3 x4 x5 y0 y1 y2 y3 y4 y5
   unfold deS at hR
   dsimp only at hR
   obtain ⟨mb, hmb⟩ : ∃ mb, (decide (db.length = eb.length) && stsS pl db eb) = mb := ⟨_, rfl⟩
   rw [hmb] at hR
   have hcl := samS_any pl (SizeOf.sizeOf db + 1) db eb ab xb capb xapb wr.drew (Nat.lt_succ_self _) ⟨hrb, StsL.keep (w := wr) (w' := wr.drew) (fun _ _ _ _ hv => hv) (StsL.weak (fun _ _ => trivial) hsb)⟩ ⟨hrx, StsL.keep (w := wr) (w' := wr.drew) (fun _ _ _ _ hv => hv) (StsL.weak (fun _ _ => trivial) hsx)⟩
   rw [hmb] at hcl
   have HR3 := Lib.hid hR
   have HCL := Lib.hid hcl
   clear hR HR hcs hds hsb hsx hmb hd he hcl h1 h1'
   rcases neOr dk ek with hk | hk
   ·have hRf : R = false := by
     rw [← HR3.out]
     simp [hk]
    subst hRf
    clear HE
    have hk' : (dk != ek) = true := by simpa using hk
    go_wp2_with fail
    go_big_quiet (fail)
    go_wp2_with fail
    go_ret
    exact ⟨rfl, below_drewN hb1 _⟩
   subst hk
   rcases neOr dn en with hn2 | hn2
   ·have hRf : R = false := by
     rw [← HR3.out]
     simp [hn2]
    subst hRf
    clear HE
    have hs2 : (dn.toList == en.toList) = false := (Lib.bytes_beq_false_iff _ _).2 hn2
    go_wp2_with fail
    go_big_quiet (fail)
    go_wp2_with fail
    go_ret
    exact ⟨rfl, below_drewN hb1 _⟩
   subst hn2
   rcases neOr du eu with hw2 | hw2
   ·have hRf : R = false := by
     rw [← HR3.out]
     simp [hw2]
    subst hRf
    clear HE
    have hk' : (du != eu) = true := by simpa using hw2
    go_wp2_with fail
    go_big_quiet (fail)
    go_wp2_with fail
    go_ret
    exact ⟨rfl, below_drewN hb1 _⟩
   subst hw2
   by_cases hpp : pl = true ∧ ¬ (dl = el ∧ dc = ec)
   ·obtain ⟨rfl, hpp⟩ := hpp
    have hRf : R = false := by
     rw [← HR3.out]
     by_cases e1 : dl = el
     ·have e2 : ¬ dc = ec := fun e2 => hpp ⟨e1, e2⟩
      simp [e2]
     ·simp [e1]
    subst hRf
    clear HE
    by_cases e1 : dl = el
    ·have e2 : ¬ dc = ec := fun e2 => hpp ⟨e1, e2⟩
     subst e1
     clear hpp
     go_wp2_with fail
     go_big_quiet (fail)
     go_wp2_with fail
     go_ret
     exact ⟨rfl, below_drewN hb1 _⟩
    ·clear hpp
     go_wp2_with fail
     go_big_quiet (fail)
     go_wp2_with fail
     go_ret
     exact ⟨rfl, below_drewN hb1 _⟩
   have HR4 : Hid ((mb && desQ pl (l.drop (i + 1)) (m.drop (i + 1))) = R) := Lib.hid (by
    have h := HR3.out
    cases pl
    ·simpa using h
    ·have h4 : dl = el ∧ dc = ec := by
      by_cases h4 : dl = el ∧ dc = ec
      ·exact h4
      ·exact absurd ⟨rfl, h4⟩ hpp
     simpa [h4.1, h4.2] using h)
   clear HR3
   cases pl
   ·have hplx : True := trivial
    clear hplx
    clear hpp
    go_wp2_with fail
    refine wp_region_quiet_tail 65 (by kernel_rfl) (by kernel_rfl) ?_
    simp only [List.take_succ_cons, List.take_zero, List.drop_succ_cons, List.drop_zero]
    repeat (go_big_quiet_step (fail))
    refine wpQuiet_nil ?_
    have hE2 := HE.out
    have hb9 := hE2.1.drew
    have hd9 : DesL (fun _ => True) wr.drew (some ⟨b2, off2, none⟩) l := DesL.keep (w := wr) (w' := wr.drew) (fun _ _ _ _ hv => hv) hE2.2.1
    have hd9' : DesL (fun _ => True) wr.drew (some ⟨b3, off3, none⟩) m := DesL.keep (w := wr) (w' := wr.drew) (fun _ _ _ _ hv => hv) hE2.2.2
    clear HE hE2 hb1
    have HE := Lib.hid (And.intro hb9 (And.intro hd9 hd9'))
    have hb1 := hb9
    clear hd9 hd9' hb9
    generalize wr.drew = wd at *
    go_wp2_with fail
    refine HCL.out.mono ?_
    rintro e W3 ⟨rfl, hb3⟩
    clear x0 x1 x2 x3 x4 x5 y0 y1 y2 y3 y4 y5 HCL
    have hb4 := hb1.trans (hb3.mono hb1.size)
    cases mb
    ·have hRf : R = false := HR4.out.symm
     subst hRf
     clear HE hb3
     go_wp2_with fail
     go_ret
     exact ⟨rfl, hb4⟩
    have HR6 : Hid (desQ false (l.drop (i + 1)) (m.drop (i + 1)) = R) := Lib.hid HR4.out
    have HE6 := Lib.hid (And.intro hb4 (And.intro (HE.out.2.1.below hb3) (HE.out.2.2.below hb3)))
    clear HR4 HE hb3 hb4
    go_wp2_with fail
    go_roundg (N - (i + 1))
    case measure => omega
    case rel => exact ⟨i + 1, by omega, rfl, rfl, HE6, HR6⟩
   ·have hplx : True := trivial
    clear hplx
    have h4 : dl = el ∧ dc = ec := by
     by_cases h4 : dl = el ∧ dc = ec
     ·exact h4
     ·exact absurd ⟨rfl, h4⟩ hpp
    obtain ⟨e1, e2⟩ := h4
    subst e1
    subst e2
    clear hpp
    go_wp2_with fail
    refine wp_region_quiet_tail 65 (by kernel_rfl) (by kernel_rfl) ?_
    simp only [List.take_succ_cons, List.take_zero, List.drop_succ_cons, List.drop_zero]
    repeat (go_big_quiet_step (fail))
    refine wpQuiet_nil ?_
    have hE2 := HE.out
    have hb9 := hE2.1.drew
    have hd9 : DesL (fun _ => True) wr.drew (some ⟨b2, off2, none⟩) l := DesL.keep (w := wr) (w' := wr.drew) (fun _ _ _ _ hv => hv) hE2.2.1
    have hd9' : DesL (fun _ => True) wr.drew (some ⟨b3, off3, none⟩) m := DesL.keep (w := wr) (w' := wr.drew) (fun _ _ _ _ hv => hv) hE2.2.2
    clear HE hE2 hb1
    have HE := Lib.hid (And.intro hb9 (And.intro hd9 hd9'))
    have hb1 := hb9
    clear hd9 hd9' hb9
    generalize wr.drew = wd at *
    go_wp2_with fail
    refine HCL.out.mono ?_
    rintro e W3 ⟨rfl, hb3⟩
    clear x0 x1 x2 x3 x4 x5 y0 y1 y2 y3 y4 y5 HCL
    have hb4 := hb1.trans (hb3.mono hb1.size)
    cases mb
    ·have hRf : R = false := HR4.out.symm
     subst hRf
     clear HE hb3
     go_wp2_with fail
     go_ret
     exact ⟨rfl, hb4⟩
    have HR6 : Hid (desQ true (l.drop (i + 1)) (m.drop (i + 1)) = R) := Lib.hid HR4.out
    have HE6 := Lib.hid (And.intro hb4 (And.intro (HE.out.2.1.below hb3) (HE.out.2.2.below hb3)))
    clear HR4 HE hb3 hb4
    go_wp2_with fail
    go_roundg (N - (i + 1))
    case measure => omega
    case rel => exact ⟨i + 1, by omega, rfl, rfl, HE6, HR6⟩
  ·obtain rfl : i = N := by omega
   have hlt : ¬ (i : Int) < (i : Int) := by omega
   have hRt : R = true := by
    rw [← HR.out, List.drop_eq_nil_of_le (by rw [HN.out]; exact Nat.le_refl _)]
    rfl
   subst hRt
   clear h1 h1' HE
   go_wp2_with fail
   go_ret
   exact ⟨rfl, hb1⟩
end Go.Proofs.YtjmlmelcppbefaaGreatDoor
