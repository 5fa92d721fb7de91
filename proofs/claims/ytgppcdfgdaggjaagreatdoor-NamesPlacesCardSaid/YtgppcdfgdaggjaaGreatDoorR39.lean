/- Texts laid together. No condition but what each law says. -/
import Derived.Test.YtgppcdfgdaggjaaGreatDoorR49
import Derived.Test.YtgppcdfgdaggjaaGreatDoorR36
import Derived.Test.YtgppcdfgdaggjaaGreatDoorR33
set_option maxRecDepth 100000
set_option maxHeartbeats 8000000
namespace Go.Proofs.YtgppcdfgdaggjaaGreatDoor
open Go.RowKit Go.Maps
variable {W w:World}{u0 u1 u4 u5 v v0 v1 v4 x0 y0 y1 y4 y5:Value}{b c i k m n:Nat}{a:Option Addr}{l2:List Value}{s t:ByteArray}
theorem flI(t:TypeId):Flat (elI t):=fun _ _ _ _ _ _ h=>h
theorem flS:Flat elS:=fun _ _ _ _ _ _ h=>h
theorem clone_grow{α:Type}{E:El α}{F:FuncId}(hF:CloC F E)(hf:Flat E){ok:Nat->Prop}{l:List α}(h:Ro E ok w v l)(hl:l.length<=10000000):Calls Tryz.prog F #[v] w fun e w'=>bL w w'/\∃a cap,e= .returned (.slice a l.length cap)/\Grow E w.1.size w' (.slice a l.length cap) l:=by obtain⟨cells,hc,h1,h2⟩:=hF w ok v l h hl;refine h2.mono ?_;rintro e w' ⟨hb,u,rfl,ho⟩;have hG:Grow E w.1.size w' u l:=⟨cells,hc,ho,fun i cs x hi hx=>hf _ _ _ _ _ _ (h1 i cs x hi hx)⟩;obtain⟨a,cap,rfl,-⟩:=hG.form;exact⟨hb,a,cap,z,hG⟩
theorem Grow.base{α:Type}{E:El α}{B B':Nat}{l:List α}(h:Grow E B w v l)(hB:B'<=B):Grow E B' w v l:=by obtain⟨cells,hc,ho,he⟩:=h.own;refine⟨cells,hc,⟨ho.1,ho.2.imp id ?_⟩,fun i cs x h1 h2=>E.weak (fun c hc=>⟨⟨by have:=hc.1.1;omega,hc.1.2⟩,hc.2⟩) (he i cs x h1 h2)⟩;rintro⟨g,cap,cur,h1,h2,h3⟩;exact⟨g,cap,cur,h1,by omega,h3⟩
structure Cq (w:World) (ps C:List Value) (W:World):Prop where
 b:bL w W
 p:Blk W w.1.size 30 ps
 r:Blk W (w.1.size+1) 30 zPgC
 o:Blk W (w.1.size+2) 30 C
section
variable {w W W':World} {ps C C':List Value}
theorem Cq.lt(h:Cq w ps C W):w.1.size+3<=W.1.size:=h.o.lt
theorem Cq.belowB(h:Cq w ps C W)(g:Below (w.1.size+3) W W'):Cq w ps C W':=⟨h.b.trans (g.mono (by omega)),h.p.of (g.block _ (by omega)),h.r.of (g.block _ (by omega)),h.o.of (g.block _ (by omega))⟩
theorem Cq.below(h:Cq w ps C W)(g:bL W W'):Cq w ps C W':=h.belowB (g.mono h.lt)
theorem Cq.setO(h:Cq w ps C W)(j:Blk W' (w.1.size+2) 30 C')(g:Ch (w.1.size+2) W W'):Cq w ps C' W':=⟨g.below (by omega) h.b,g.blk (by omega) h.p,g.blk (by omega) h.r,j⟩
end
theorem Ch.roB{α:Type}{E:El α}{w':World}{B:Nat}(h:Ch b w w')(hb:b<B){l:List α}(hr:Ro E (B<=·) w v l):Ro E (B<=·) w' v l:=hr.keep fun c o u g A=>by have C:=g;rw[h.cellF (by omega)];exact A
theorem info71:(Tryz.prog.info? 71).map (·.size)=some 3:=by kernel_rfl
theorem under71:∃d,Tryz.prog.underlying 71=some d/\d.isRow=true:=by
 have h:(Tryz.prog.underlying 71).map (·.isRow)=some true:=by kernel_rfl
 obtain⟨d,j,g⟩:=Option.map_eq_some_iff.1 h;exact⟨d,j,g⟩
theorem zero71:∃i z,Tryz.prog.info? 71=some i/\i.zero=some z/\z.cells=([.string ⟨#[]⟩,.int .i64 0,.slice none 0 0]:List Value).toArray:=infoZ (by kernel_rfl)
structure Tq (B i g:Nat) (T:List Th) (C:List Value) (W:World):Prop where
 k:Blk W g 71 C
 ge:B<=g
 ln:T.length*3<=C.length
 d:∀j x,j<i->T[j]? =some x->∃cs,Th.L (fun c=> (B<=c/\c≠g)/\c<W.1.size) W cs x/\∀t,t<3->C[j*3+t]? =cs[t]?
 r:∀j x,i<=j->T[j]? =some x->C[j*3]? =some (.string x.name)/\C[j*3+1]? =some (.int .i64 (x.locals:Int))
section
variable {B i g:Nat} {T:List Th} {C:List Value} {W W':World}
theorem Tq.keep(h:Tq B i g T C W)(hk:∀c,B<=c->c<W.1.size->W'.1[c]? =W.1[c]?)(hs:W.1.size<=W'.1.size):Tq B i g T C W':=
 ⟨h.k.of (hk g h.ge h.k.lt),h.ge,h.ln,fun j x hj hx=>by obtain⟨cs,h1,h2⟩:=h.d j x hj hx;exact⟨cs,elTh.weak (fun c hc=>⟨hc.1,Nat.lt_of_lt_of_le hc.2 hs⟩) (elTh.keep (fun b o u hb hu=> (World.cellF_of (hk b hb.1.1 hb.2) o).trans hu) h1),h2⟩,h.r⟩
theorem Tq.below(h:Tq B i g T C W)(hb:bL W W'):Tq B i g T C W':=h.keep (fun c _ hc=>hb.block c hc) hb.size
theorem Tq.ch(h:Tq B i g T C W)(hc:Ch b W W')(hb:b<B):Tq B i g T C W':=h.keep (fun c h1 _=>hc.hpc (by omega)) (Nat.le_of_eq hc.size.symm)
theorem Tq.set{x:Th}{cap:Nat}(h:Tq B i g T C W)(hx:T[i]? =some x)(hr:Roomy x.body.length cap)(ht:StsL (fun c=> (B<=c/\c≠g)/\c<W.1.size) W a 0 x.body)(hk:Blk W' g 71 (C.set (i*3+2) (.slice a x.body.length cap)))(hc:Ch g W W'):Tq B (i+1) g T (C.set (i*3+2) (.slice a x.body.length cap)) W':=by
 have hcf:∀ (b o:Nat) (u:Value),((B<=b/\b≠g)/\b<W.1.size)->W.cellF ⟨b,o,none⟩=some u->W'.cellF ⟨b,o,none⟩=some u:=fun b o u hb hu=>by rw[hc.cellF hb.1.2];exact hu
 have hsz:=hc.size;have hi:i<T.length:=(List.getElem?_eq_some_iff.1 hx).1;refine⟨hk,h.ge,by rw[List.length_set];exact h.ln,fun j y hj hy=>?_,fun j y hj hy=>?_⟩
 .by_cases e:j=i
  .subst e;rw[hx]at hy;cases hy;obtain⟨r1,r2⟩:=h.r j x (Nat.le_refl _) hx;refine⟨[.string x.name,.int .i64 (x.locals:Int),.slice a x.body.length cap],⟨a,cap,z,hr,StsL.weak (fun c hc=>⟨hc.1,by rw[hsz];exact hc.2⟩) (StsL.keep hcf ht)⟩,fun t ht3=>?_⟩;have hl:=h.ln;rcases t with _|_|_|t
   .rw[List.getElem?_set_ne (by omega)];exact r1
   .rw[List.getElem?_set_ne (by omega)];exact r2
   .rw[List.getElem?_set_self (by omega)];rfl
   .omega
  .obtain⟨cs,h1,h2⟩:=h.d j y (by omega) hy;exact⟨cs,elTh.weak (fun c hc=>⟨hc.1,by rw[hsz];exact hc.2⟩) (elTh.keep hcf h1),fun t ht3=>by rw[List.getElem?_set_ne (by omega)];exact h2 t ht3⟩
 .obtain⟨r1,r2⟩:=h.r j y (by omega) hy;exact⟨by rw[List.getElem?_set_ne (by omega)];exact r1,by rw[List.getElem?_set_ne (by omega)];exact r2⟩
end
structure Ck3 (ok:Nat->Prop) (P:Pg) (v0 v1 v4:Value) (W:World):Prop where
 v:Ro (elI 2) ok W v0 P.vars
 a:Ro (elI 3) ok W v1 P.arrays
 c:Ro (elI 3) ok W v4 P.chans
theorem Ck3.keep{ok:Nat->Prop}{P:Pg}{W':World}(h:Ck3 ok P v0 v1 v4 W)(g:∀ (b o:Nat) (u:Value),ok b->W.cellF ⟨b,o,none⟩=some u->W'.cellF ⟨b,o,none⟩=some u):Ck3 ok P v0 v1 v4 W':=⟨h.v.keep g,h.a.keep g,h.c.keep g⟩
structure Cn (B:Nat) (P:Pg) (v0 v1 v4:Value) (ga:Option Addr) (W:World):Prop where
 k:Ck3 (fun c=>B<=c/\ga≠some ⟨c,0,none⟩) P v0 v1 v4 W
 t:(ga=none/\P.threads=[])∨∃g C,ga=some ⟨g,0,none⟩/\Tq B P.threads.length g P.threads C W
theorem Cn.below{B:Nat}{P:Pg}{ga:Option Addr}{W':World}(h:Cn B P v0 v1 v4 ga W)(g:bL W W'):Cn B P v0 v1 v4 ga W':=
 ⟨h.k.keep fun b o u _ hu=>below_cell g b o u hu,h.t.imp id fun ⟨q,C,h1,h2⟩=>⟨q,C,h1,h2.below g⟩⟩
theorem Cn.ch{B:Nat}{P:Pg}{ga:Option Addr}{W':World}(h:Cn B P v0 v1 v4 ga W)(g:Ch b W W')(hb:b<B):Cn B P v0 v1 v4 ga W':=
 ⟨h.k.keep fun c o u hc hu=>by rw[g.cellF (by have:=hc.1;omega)];exact hu,h.t.imp id fun ⟨q,C,h1,h2⟩=>⟨q,C,h1,h2.ch g hb⟩⟩
theorem Cn.ga{B:Nat}{P:Pg}{ga:Option Addr}(h:Cn B P v0 v1 v4 ga W)(hc:W.1.size<=c):ga≠some ⟨c,0,none⟩:=by
 rcases h.t with ⟨e,-⟩|⟨g,C,e,h⟩
 .rw[e];exact nofun
 .rintro e2;rw[e]at e2;cases e2;have:=h.k.lt;omega
structure Nm5 (ok:Nat->Prop) (P:Pg) (m0 m1 m2 m3 m4:Value) (W:World):Prop where
 v:Ro elS ok W m0 P.nv
 a:Ro elS ok W m1 P.na
 m:Ro elS ok W m2 P.nm
 c:Ro elS ok W m3 P.nc
 h:Ro elS ok W m4 P.nh
theorem Nm5.keep{ok:Nat->Prop}{P:Pg}{m0 m1 m2 m3 m4:Value}{W':World}(h:Nm5 ok P m0 m1 m2 m3 m4 W)(g:∀ (b o:Nat) (u:Value),ok b->W.cellF ⟨b,o,none⟩=some u->W'.cellF ⟨b,o,none⟩=some u):Nm5 ok P m0 m1 m2 m3 m4 W':=⟨h.v.keep g,h.a.keep g,h.m.keep g,h.c.keep g,h.h.keep g⟩
def CpyR2(w:World)(P:Pg)(e:Ending)(w':World):Prop:=bL w w'/\∃v0 v1 v4 ga gc m0 m1 m2 m3 m4,e= .returned (.agg (pgC P v0 v1 v4 (.slice ga P.threads.length gc) m0 m1 m2 m3 m4 []).toArray)/\Roomy P.threads.length gc/\Cn (w.1.size+3) P v0 v1 v4 ga w'/\Nm5 (fun c=>w.1.size+3<=c/\ga≠some ⟨c,0,none⟩) P m0 m1 m2 m3 m4 w'
theorem cp_tail{P:Pg}{n0 n1 n2 n3 n4:Value}{ga:Option Addr}{gc:Nat}(hR:Hid (Roomy P.threads.length gc))(hP:Hid (PgL (fun _=>True) w P u0 u1 u4 u5 n0 n1 n2 n3 n4))(hN:Hid (P.nv.length<=10000000/\P.na.length<=10000000/\P.nm.length<=10000000/\P.nc.length<=10000000/\P.nh.length<=10000000))
  (E:Hid (Cq w (pgC P u0 u1 u4 u5 n0 n1 n2 n3 n4 []) (pgC P v0 v1 v4 (.slice ga P.threads.length gc) n0 n1 n2 n3 n4 []) W))(HC:Hid (Cn (w.1.size+3) P v0 v1 v4 ga W))(hU:l2.length=57:=by rfl):
  Code.wp Tryz.prog (dropS 5 (Tryz.f20.body.getD .skip)) (bodyPost Tryz.prog Tryz.f20 (CpyR2 w P)) ⟨(x0::Pt w.1.size::Pt (w.1.size+1)::Pt (w.1.size+2)::l2).toArray,[]⟩ W:=by
 revert l2;apply aN;iterate 57 intro _
 change Code.wp _ _ _ _ _;obtain⟨i8,z8,f6,g2,g5⟩:=zero28;obtain⟨d8,e8,r8⟩:=under28;obtain⟨d3,e3,r3⟩:=under30;have h4:Tryz.prog.follows .mixedOrders=true:=by kernel_rfl
 have hn0:n0.oneCell'=true/\n1.oneCell'=true/\n2.oneCell'=true/\n3.oneCell'=true/\n4.oneCell'=true:=by obtain⟨a0,c0,h0,-⟩:=hP.o.nv;obtain⟨a1,c1,h1,-⟩:=hP.o.na;obtain⟨a2,c2,h2,-⟩:=hP.o.nm;obtain⟨a3,c3,h3,-⟩:=hP.o.nc;obtain⟨a4,c4,h4,-⟩:=hP.o.nh;subst h0 h1 h2 h3 h4;exact⟨z,z,z,z,z⟩
 have hns:Hid ((([n0,n1,n2,n3,n4]:List Value).length=5)/\∀v∈ ([n0,n1,n2,n3,n4]:List Value),v.oneCell'=true):=O ⟨z,fun v hv=>by
  simp only[List.mem_cons,List.not_mem_nil,or_false]at hv;rcases hv with rfl|rfl|rfl|rfl|rfl
  .exact hn0.1
  .exact hn0.2.1
  .exact hn0.2.2.1
  .exact hn0.2.2.2.1
  .exact hn0.2.2.2.2⟩
 clear hn0;conv in (dropS _ _)=>whnf
 refine wk fun KK U=>?_;have hr8:Hid (W.rangeAt w.1.size 8 [n0,n1,n2,n3,n4]):=O (by have h:=E.o.p.range (pre:=[u0,u1,.int .i64 (P.mutexes:Int),.int .i64 (P.conds:Int),u4,u5,.int .i64 (P.main:Int),.int .i64 (P.stmts:Int)]) (mid:=[n0,n1,n2,n3,n4]) (post:=[]) z;exact h)
 obtain⟨b6,hb6⟩:=eX W.1.size;go_wp2_with (first
  | ((with_reducible refine l1 42 28 ?_);refine wpList_load_mid z 28 (.tmp 41) z w.1.size 8 z [n0,n1,n2,n3,n4] d8 hr8.o e8 r8 info28 ?_)
  | ((with_reducible refine aa 6 (.alloc 28) ?_);refine wpList_alloc_blk f6 g2 g5 z z b6 hb6 ?_;intro W1 k1 b1 s1;have K1:=O k1;have B1:=O b1;clear k1 b1 s1)
  | ((with_reducible refine s0 28 ?_);refine wpList_store_ch info28 z (.tmp 6) (.tmp 42) z b6 [n0,n1,n2,n3,n4] _ z z K1.o z hns.o ?_;intro W2 k2 c2;have K2:=O k2;have B2:Hid (bL W W2):=O (c2.below (by omega) B1.o);clear k2 c2 K1 B1)
 )
 refine U.o _ _ ?_;clear U KK hr8 hb6;have E2:=O (E.o.below B2.o);have HC2:=O (HC.o.below B2.o);clear E HC B2;refine wk fun KK U=>?_;obtain⟨V,hV⟩:=eX W2.drew;have hb:bL W2 V:=by rw[<-hV];exact(Below.refl _ _).drew
 have KV:=O (K2.o.below hb);have EV:=O (E2.o.below hb);have HCV:=O (HC2.o.below hb);clear E2 HC2 K2 hb;go_wp2;refine wp_region_x [17] (fun W=>bL V W) h4 ?_;rw[hV];clear hV;have HS:Hid (bL V V):=O (Below.refl _ _);refine ag 0 ?_;refine af (fun W=>W.cell? ⟨b6,0,none⟩=some n0) 1 (fun W h=>by rw[(KV.o.below h).cell];rfl) ?_;refine ag 3 ?_;refine af (fun W=>W.cell? ⟨b6,1,none⟩=some n1) 4 (fun W h=>by rw[(KV.o.below h).cell];rfl) ?_;refine nm ?_;refine ag 6 ?_;refine af (fun W=>W.cell? ⟨b6,2,none⟩=some n2) 7 (fun W h=>by rw[(KV.o.below h).cell];rfl) ?_;refine ag 9 ?_;refine af (fun W=>W.cell? ⟨b6,3,none⟩=some n3) 10 (fun W h=>by rw[(KV.o.below h).cell];rfl) ?_;refine nm ?_;refine ag 12 ?_
 refine af (fun W=>W.cell? ⟨b6,4,none⟩=some n4) 13 (fun W h=>by rw[(KV.o.below h).cell];rfl) ?_;refine nm ?_;refine oD 2 fun K F=>?_;go_simp;refine(clone_grow clone51 flS (w:=V) (hP.o.nv.keep fun b o u _ hu=>below_cell (EV.o.b.trans ((Below.refl _ V).mono EV.o.b.size)) b o u hu) hN.o.1).mono ?_;rintro e A0 ⟨hb,a0,c0,rfl,hg⟩;have P0:Hid (bL V A0):=O (hb);have G0_0:Hid (Grow elS V.1.size A0 (.slice a0 P.nv.length c0) P.nv):=O (Grow.base hg (Nat.le_refl _));apply F _ _ (fun _=>P0.o);clear F K hb hg;refine oD 5 fun K F=>?_;go_simp;refine(clone_grow clone51 flS (w:=A0) (hP.o.na.keep fun b o u _ hu=>below_cell (EV.o.b.trans (P0.o.mono EV.o.b.size)) b o u hu) hN.o.2.1).mono ?_
 rintro e A1 ⟨hb,a1,c1,rfl,hg⟩;have P1:Hid (bL V A1):=O (P0.o.trans (hb.mono P0.o.size));have G1_1:Hid (Grow elS V.1.size A1 (.slice a1 P.na.length c1) P.na):=O (Grow.base hg P0.o.size);have G0_1:=O (G0_0.o.below hb);apply F _ _ (fun _=>P1.o);clear F K hb hg;refine oD 8 fun K F=>?_;go_simp;refine(clone_grow clone51 flS (w:=A1) (hP.o.nm.keep fun b o u _ hu=>below_cell (EV.o.b.trans (P1.o.mono EV.o.b.size)) b o u hu) hN.o.2.2.1).mono ?_;rintro e A2 ⟨hb,a2,c2,rfl,hg⟩;have P2:Hid (bL V A2):=O (P1.o.trans (hb.mono P1.o.size));have G2_2:Hid (Grow elS V.1.size A2 (.slice a2 P.nm.length c2) P.nm):=O (Grow.base hg P1.o.size);have G0_2:=O (G0_1.o.below hb);have G1_2:=O (G1_1.o.below hb)
 apply F _ _ (fun _=>P2.o);clear F K hb hg;refine oD 11 fun K F=>?_;go_simp;refine(clone_grow clone51 flS (w:=A2) (hP.o.nc.keep fun b o u _ hu=>below_cell (EV.o.b.trans (P2.o.mono EV.o.b.size)) b o u hu) hN.o.2.2.2.1).mono ?_;rintro e A3 ⟨hb,a3,c3,rfl,hg⟩;have P3:Hid (bL V A3):=O (P2.o.trans (hb.mono P2.o.size));have G3_3:Hid (Grow elS V.1.size A3 (.slice a3 P.nc.length c3) P.nc):=O (Grow.base hg P2.o.size);have G0_3:=O (G0_2.o.below hb);have G1_3:=O (G1_2.o.below hb);have G2_3:=O (G2_2.o.below hb);apply F _ _ (fun _=>P3.o);clear F K hb hg;refine oD 14 fun K F=>?_;go_simp
 refine(clone_grow clone51 flS (w:=A3) (hP.o.nh.keep fun b o u _ hu=>below_cell (EV.o.b.trans (P3.o.mono EV.o.b.size)) b o u hu) hN.o.2.2.2.2).mono ?_;rintro e A4 ⟨hb,a4,c4,rfl,hg⟩;have P4:Hid (bL V A4):=O (P3.o.trans (hb.mono P3.o.size));have G4_4:Hid (Grow elS V.1.size A4 (.slice a4 P.nh.length c4) P.nh):=O (Grow.base hg P3.o.size);have G0_4:=O (G0_3.o.below hb);have G1_4:=O (G1_3.o.below hb);have G2_4:=O (G2_3.o.below hb);have G3_4:=O (G3_3.o.below hb);apply F _ _ (fun _=>P4.o);clear F K hb hg;refine ag 15 ?_;refine nm ?_;refine ag 16 ?_;refine nm ?_;have E4:=O (EV.o.below P4.o);have HC4:=O (HCV.o.below P4.o);refine oD 17 fun K F=>?_
 refine wp_store_part info28 (.tmp 59) (.tmp 58) z (w.1.size+2) 8 [.slice a0 P.nv.length c0,.slice a1 P.na.length c1,.slice a2 P.nm.length c2,.slice a3 P.nc.length c3,.slice a4 P.nh.length c4] (pre:=[v0,v1,.int .i64 (P.mutexes:Int),.int .i64 (P.conds:Int),v4,.slice ga P.threads.length gc,.int .i64 (P.main:Int),.int .i64 (P.stmts:Int)]) (mid:=[n0,n1,n2,n3,n4]) (post:=[]) z z E4.o.o z z ⟨z,fun v hv=>by simp only[List.mem_cons,List.not_mem_nil,or_false]at hv;rcases hv with rfl|rfl|rfl|rfl|rfl<;>rfl⟩ ?_
 intro W5 k5 c5;have E5:Hid (Cq w (pgC P u0 u1 u4 u5 n0 n1 n2 n3 n4 []) (pgC P v0 v1 v4 (.slice ga P.threads.length gc) (.slice a0 P.nv.length c0) (.slice a1 P.na.length c1) (.slice a2 P.nm.length c2) (.slice a3 P.nc.length c3) (.slice a4 P.nh.length c4) []) W5):=O (E4.o.setO k5 c5);have HC5:=O (HC4.o.ch c5 (by omega));have HG5:Hid (Nm5 (fun c=>w.1.size+3<=c/\ga≠some ⟨c,0,none⟩) P (.slice a0 P.nv.length c0) (.slice a1 P.na.length c1) (.slice a2 P.nm.length c2) (.slice a3 P.nc.length c3) (.slice a4 P.nh.length c4) W5):=O (by have hlt:=EV.o.lt;have hok:∀c,V.1.size<=c->w.1.size+3<=c/\ga≠some ⟨c,0,none⟩:=fun c hc=>⟨by omega,HCV.o.ga hc⟩;exact⟨(c5.roB (by omega) (Ro.of G0_4.o)).weak hok,(c5.roB (by omega) (Ro.of G1_4.o)).weak hok,(c5.roB (by omega) (Ro.of G2_4.o)).weak hok,(c5.roB (by omega) (Ro.of G3_4.o)).weak hok,(c5.roB (by omega) (Ro.of G4_4.o)).weak hok⟩)
 apply F _ _ nofun;clear F K k5 c5 E4 HC4 G0_4 G1_4 G2_4 G3_4 G4_4 G0_3 G1_3 G2_3 G3_3 G0_2 G1_2 G2_2 G0_1 G1_1 G0_0 P0 P1 P2 P3 P4 EV HCV KV;simp only[Act.put];refine dn ?_;go_wp2_with fail;refine U.o _ _ ?_;clear U KK;have hone:v0.oneCell'=true/\v1.oneCell'=true/\v4.oneCell'=true:=by obtain⟨a0,c0,h0,-⟩:=HC5.o.k.v;obtain⟨a1,c1,h1,-⟩:=HC5.o.k.a;obtain⟨a2,c2,h2,-⟩:=HC5.o.k.c;subst h0 h1 h2;exact⟨z,z,z⟩
 obtain⟨S,b9⟩:=eX (pgC P v0 v1 v4 (.slice ga P.threads.length gc) (.slice a0 P.nv.length c0) (.slice a1 P.na.length c1) (.slice a2 P.nm.length c2) (.slice a3 P.nc.length c3) (.slice a4 P.nh.length c4) []);have h6:=O b9;have e1:Hid (S.length=13/\∀v∈S,v.oneCell'=true):=O (by
  rw[<-b9];refine⟨z,fun v hv=>?_⟩;simp only[pgC,List.mem_cons,List.not_mem_nil,or_false]at hv;rcases hv with rfl|rfl|rfl|rfl|rfl|rfl|rfl|rfl|rfl|rfl|rfl|rfl|rfl
  .exact hone.1
  .exact hone.2.1
  .exact z
  .exact z
  .exact hone.2.2
  .exact z
  .exact z
  .exact z
  .exact z
  .exact z
  .exact z
  .exact z
  .exact z)
 rw[b9]at E5;clear b9 hone;have e8':=e1.o.1;go_wp2_with (first
  | ((with_reducible refine l0 30 ?_);refine wpList_load_blk e3 r3 info30 z (.tmp 3) z (w.1.size+2) S z (O E5.o.o) e8' ?_)
  | ((with_reducible refine s0 30 ?_);refine wpList_store_ch info30 z (.tmp 2) (.tmp 60) z (w.1.size+1) S _ z z E5.o.r z e1.o ?_;intro W9 k9 c9;have X:=O (And.intro k9 c9);clear k9 c9)
 )
 refine end_blk e3 r3 info30 X.o.1 e8' z z z ?_;rw[<-h6.o];have hlt:=E5.o.lt;exact⟨X.o.2.below (by omega) E5.o.b,v0,v1,v4,ga,gc,_,_,_,_,_,z,hR.o,HC5.o.ch X.o.2 (by omega),HG5.o.keep fun c o u hc hu=>by rw[X.o.2.cellF (by have:=hc.1;omega)];exact hu⟩
theorem cp_loop{P:Pg}{n0 n1 n2 n3 n4:Value}{ga:Option Addr}{gc:Nat}(hP:Hid (PgL (fun _=>True) w P y0 y1 y4 y5 n0 n1 n2 n3 n4))(hN:Hid (P.nv.length<=10000000/\P.na.length<=10000000/\P.nm.length<=10000000/\P.nc.length<=10000000/\P.nh.length<=10000000))
  (hB:Hid (∀x∈P.threads,St.szs x.body/\St.cns x.body<=90000/\x.body.length<=10000000))(hR:Hid (Roomy P.threads.length gc))
  (E:Hid (Cq w (pgC P y0 y1 y4 y5 n0 n1 n2 n3 n4 []) (pgC P v0 v1 v4 (.slice ga P.threads.length gc) n0 n1 n2 n3 n4 []) W))(HC:Hid (Ck3 (fun c=>w.1.size+3<=c/\ga≠some ⟨c,0,none⟩) P v0 v1 v4 W))(HT:Hid ((ga=none/\P.threads=[])∨∃g C,ga=some ⟨g,0,none⟩/\Tq (w.1.size+3) 0 g P.threads C W))(hU:l2.length=57:=by rfl):
  Code.wp Tryz.prog (dropS 4 (Tryz.f20.body.getD .skip)) (bodyPost Tryz.prog Tryz.f20 (CpyR2 w P)) ⟨(x0::Pt w.1.size::Pt (w.1.size+1)::Pt (w.1.size+2)::l2).toArray,[]⟩ W:=by
 revert l2;apply aN;iterate 57 intro _
 change Code.wp _ _ _ _ _;obtain⟨i8,z8,f6,g2,g5⟩:=zero71;obtain⟨d8,e8,r8⟩:=under71;have h4:Tryz.prog.follows .mixedOrders=true:=by kernel_rfl
 obtain⟨a5,c5,hu5,hr5,hl5⟩:=id hP.o.threads;subst hu5;have HL5:=O hl5;have HR5:=O hr5;clear hl5 hr5;obtain⟨C,hN2⟩:=eX P.threads.length;have HQ:=O hN2;have c6:W.cell? ⟨w.1.size,5,none⟩=some (.slice a5 C c5):=by rw[E.o.p.cell,<-hN2];rfl
 have i5:Hid (C<=9223372036854775807):=O (by rw[<-hN2];have:=HR5.o;exact Nat.le_trans this.1 this.2);clear hN2;conv in (dropS _ _)=>whnf
 refine wk fun KK U=>?_;go_wp2_with fail;clear c6;go_loopg [27] C (fun x iv wr=>∃ (i:Nat),i<=C/\x=C-i/\iv=I i/\Hid (Cq w (pgC P y0 y1 y4 (.slice a5 P.threads.length c5) n0 n1 n2 n3 n4 []) (pgC P v0 v1 v4 (.slice ga P.threads.length gc) n0 n1 n2 n3 n4 []) wr)/\Hid (Ck3 (fun c=>w.1.size+3<=c/\ga≠some ⟨c,0,none⟩) P v0 v1 v4 wr)/\Hid ((ga=none/\P.threads=[])∨∃g D,ga=some ⟨g,0,none⟩/\Tq (w.1.size+3) i g P.threads D wr));case atStart=>exact⟨0,Nat.zero_le _,z,z,E,HC,HT⟩
 case round=>
  clear E HC HT;obtain⟨i,hi,rfl,rfl,E,HC,HT⟩:=hrel;by_cases a6:i<C
  .have h9:(i:Int)< (C:Int):=by omega
   have h8:(0:Int)<=(i:Int):=by omega
   have f4:Hid (wrap64 ((i:Int)+1)=((i+1:Nat):Int)):=O (by have h1:=i5.o;have:=IntWalk.wrap64_in ((i:Int)+1) (by omega);rw[this];omega)
   obtain⟨x,hx⟩:∃x,P.threads[i]? =some x:=⟨_,List.getElem?_eq_getElem (by rw[HQ.o];exact a6)⟩;obtain⟨b2,of,cs,rfl,-,hr,hL⟩:=HL5.o i x hx;obtain⟨ba,bc,rfl,hrb,hsb⟩:=hL;have HXB:=O (hB.o x (List.mem_of_getElem? hx));have HX:=O (And.intro hx (And.intro hrb hsb));obtain⟨NB,hNB⟩:=eX x.body.length;have HNB:=O hNB;rw[hNB]at hr;obtain⟨g,D,rfl,hTq⟩:∃g D,ga=some ⟨g,0,none⟩/\Tq (w.1.size+3) i g P.threads D wr:=by
    rcases HT.o with h|h
    .have:=HQ.o;rw[h.2]at this;simp at this;omega
    .exact h
   have HTq:=O hTq;have HRw:Hid (wr.rangeAt b2 (of+i*3) [.string x.name,.int .i64 (x.locals:Int),.slice ba NB bc]):=O fun t v hv=>below_cl E.o.b _ _ _ (World.cellF_cell (hr t v hv));have hc3:Hid (([.string x.name,.int .i64 (x.locals:Int),.slice ba NB bc]:List Value).length=3/\∀v∈ ([.string x.name,.int .i64 (x.locals:Int),.slice ba NB bc]:List Value),v.oneCell'=true):=O ⟨z,fun v hv=>by simp only[List.mem_cons,List.not_mem_nil,or_false]at hv;rcases hv with rfl|rfl|rfl<;>rfl⟩
   clear hx hrb hsb hNB hTq hr HT;obtain⟨b5,hb5⟩:=eX wr.1.size;go_wp2_with (first
    | ((with_reducible refine l1 31 71 ?_);refine wpList_load_mid z 71 (.tmp 30) z b2 (of+i*3) z [.string x.name,.int .i64 (x.locals:Int),.slice ba NB bc] d8 HRw.o e8 r8 info71 ?_)
    | ((with_reducible refine aa 5 (.alloc 71) ?_);refine wpList_alloc_blk f6 g2 g5 z z b5 hb5 ?_;intro W1 k1 b1 s1;have K1:=O k1;have B1:=O b1;clear k1 b1 s1)
    | ((with_reducible refine s0 71 ?_);refine wpList_store_ch info71 z (.tmp 5) (.tmp 31) z b5 [.string x.name,.int .i64 (x.locals:Int),.slice ba NB bc] _ z z K1.o z hc3.o ?_;intro W2 k2 c2;have K2:=O k2;have B2:Hid (bL wr W2):=O (c2.below (by omega) B1.o);clear k2 c2 K1 B1)
    )
   obtain⟨V,hV⟩:=eX W2.drew;have hb:bL wr V:=by rw[<-hV];exact B2.o.drew
   have KV:Hid (Blk V b5 71 [.string x.name,.int .i64 (x.locals:Int),.slice ba NB bc]):=O (by rw[<-hV];exact K2.o.drew);have EV:=O (E.o.below hb);have HCV:=O (HC.o.keep fun b o u _ hu=>below_cell hb b o u hu);have HTV:=O (HTq.o.below hb);clear E HC HTq K2 B2 hb hb5 HRw;refine wp_region_x [8] (fun W=>bL V W) h4 ?_;rw[hV];clear hV;have HS:Hid (bL V V):=O (Below.refl _ _);refine ag 0 ?_;refine af (fun W=>W.cell? ⟨w.1.size+2,5,none⟩=some (.slice (some ⟨g,0,none⟩) C gc)) 1 (fun W h=>by rw[((EV.o.below h).o).cell,<-HQ.o];rfl) ?_;refine ak 2 ?_;refine af (fun W=>W.cell? ⟨b5,2,none⟩=some (.slice ba NB bc)) 4 (fun W h=>by rw[(KV.o.below h).cell];rfl) ?_;refine nm ?_;refine oD 5 fun K F=>?_;go_simp
   have hcall:=copyB_any (w:=V) ba bc x.body HX.o.2.1 HXB.o.2.2 HXB.o.1 HXB.o.2.1 (StsL.keep (fun b o v _ hv=>below_cell EV.o.b b o v hv) HX.o.2.2);rw[HNB.o]at hcall;refine hcall.mono ?_;clear hcall;rintro e W3 ⟨hb3,a3,c3,rfl,hr3,ht3⟩;have P3:Hid (bL V W3):=O hb3;have E3:=O (EV.o.below hb3);have HC3:=O (HCV.o.keep fun b o u _ hu=>below_cell hb3 b o u hu);have HT3:=O (HTV.o.below hb3);have HB3:Hid (Roomy x.body.length c3/\StsL (fun c=> (w.1.size+3<=c/\c≠g)/\c<W3.1.size) W3 a3 0 x.body):=O ⟨by rw[HNB.o];exact hr3,(StsL.bound ht3).weak fun c hc=>by have h1:V.1.size<=c:=hc.1;have h2:=EV.o.lt;have h3:=HTV.o.k.lt;exact⟨⟨by omega,by omega⟩,hc.2⟩⟩
   apply F _ _ (fun _=>P3.o);clear F K hb3 hr3 ht3 EV HCV HTV KV;refine ak 6 ?_;refine nm ?_;refine oD 8 fun K F=>?_;have hi3:Hid (i*3+2<D.length):=O (by have h1:=HT3.o.ln;rw[HQ.o]at h1;omega);refine wp_store_one (by kernel_rfl) (.tmp 39) (.tmp 37) z g (i*3+2) 71 (.slice a3 NB c3) D z z z z HT3.o.k hi3.o ?_;intro W4 k4 c4;have hg3:=HT3.o.ge;rw[<-HNB.o]at k4;have T4:=O (HT3.o.set HX.o.1 HB3.o.1 HB3.o.2 k4 c4);have E4:Hid (Cq w (pgC P y0 y1 y4 (.slice (some ⟨b2,of,none⟩) P.threads.length c5) n0 n1 n2 n3 n4 []) (pgC P v0 v1 v4 (.slice (some ⟨g,0,none⟩) P.threads.length gc) n0 n1 n2 n3 n4 []) W4):=O (E3.o.belowB (c4.below hg3 (Below.refl _ _)));have HC4:=O (HC3.o.keep fun b o u hb hu=>by rw[c4.cellF (fun e=>hb.2 (by rw[e]))];exact hu)
   apply F _ _ nofun;clear F K k4 c4 E3 HC3 HT3 HB3;simp only[Act.put];refine dn ?_;go_wp2_with fail;go_roundg (C- (i+1));case measure=>omega
   case rel=>exact⟨i+1,by omega,z,congrArg (Value.int .i64) f4.o,E4,HC4,O (.inr ⟨_,_,z,T4.o⟩)⟩
  .obtain rfl:i=C:=by omega
   have i2:¬ (i:Int)< (i:Int):=by omega
   go_wp2_with fail;refine U.o _ _ ?_;refine cp_tail hR hP hN E (O ⟨HC.o,?_⟩);have h:=HT.o;rw[<-HQ.o]at h;exact h
structure PgB (P:Pg):Prop where
 v:P.vars.length<=10000000
 a:P.arrays.length<=10000000
 c:P.chans.length<=10000000
 t:P.threads.length<=10000000
 n:P.nv.length<=10000000/\P.na.length<=10000000/\P.nm.length<=10000000/\P.nc.length<=10000000/\P.nh.length<=10000000
 b:∀x∈P.threads,St.szs x.body/\St.cns x.body<=90000/\x.body.length<=10000000
theorem Grow.roN{α:Type}{E:El α}{B:Nat}{l:List α}{ga:Option Addr}(h:Grow E B w v l)(hz:0<E.sz)(hg:∀b,ga=some ⟨b,0,none⟩->w.1.size<=b):Ro E (fun c=>B<=c/\ga≠some ⟨c,0,none⟩) w v l:=by
 obtain⟨a,cap,rfl,D⟩:=h.form;have hlt:∀c,c<w.1.size->ga≠some ⟨c,0,none⟩:=fun c hc e=>by have:=hg c e;omega
 refine⟨a,cap,z,D,fun j x H=>?_⟩;obtain⟨b,g,cs,A,G,C,F⟩:=h.at j x H;have hb:b<w.1.size:=World.block_lt_of_cellF w (C 0 _ (List.getElem?_eq_getElem (by rw[(E.cells F).1];exact hz)));exact⟨b,g,cs,A,⟨G,hlt b hb⟩,C,E.weak (fun c hc=>⟨hc.1,hlt c hc.2⟩) (E.bound F)⟩
theorem clone_th{ok:Nat->Prop}{T:List Th}(h:Ro elTh ok w v T)(hl:T.length<=10000000):Calls Tryz.prog 49 #[v] w fun e w'=>bL w w'/\∃ga gc,e= .returned (.slice ga T.length gc)/\Roomy T.length gc/\(ga=none/\T=[]∨∃g C,ga=some ⟨g,0,none⟩/\Tq w.1.size 0 g T C w'):=by
 obtain⟨cells,hc,h1,h2⟩:=clone49 w ok v T h hl;refine h2.mono ?_;rintro e w' ⟨hb,u,rfl,ho⟩;refine⟨hb,?_⟩;rcases ho.2 with ⟨rfl,hn⟩|⟨g,cap,cur,rfl,hg,hh,hnc,hm,hcs,htk⟩
 .have e:T=[]:=List.length_eq_zero_iff.1 hn;exact⟨none,0,by rw[hn],by rw[hn];exact⟨Nat.le_refl _,by decide⟩,.inl ⟨z,e⟩⟩
 .refine⟨some ⟨g,0,none⟩,cap,z,⟨hnc,hm⟩,.inr ⟨g,cur.toList,z,hh,hg,?_,fun j x hj=>absurd hj (Nat.not_lt_zero _),fun j x _ hx=>?_⟩⟩
  .show T.length*3<=cur.toList.length;have h9:cur.toList.length=cap*3:=by rw[Array.length_toList];exact hcs
   rw[h9];exact Nat.mul_le_mul_right _ hnc
  .have hj:=(List.getElem?_eq_some_iff.1 hx).1;obtain⟨cs,hcs2⟩:∃cs,cells[j]? =some cs:=⟨_,List.getElem?_eq_getElem (by omega)⟩;obtain⟨a,c2,rfl,-,-⟩:=h1 j cs x hcs2 hx;have hlen:∀c∈cells,c.length=3:=fun c A=>by obtain⟨i,R,rfl⟩:=List.mem_iff_getElem.1 A;exact(elTh.cells (h1 i _ _ (List.getElem?_eq_getElem R) (List.getElem?_eq_getElem (by omega)))).1
   have hf:∀t,t<3->cur.toList[j*3+t]? =cells.flatten[j*3+t]? :=fun t ht=>by rw[<-htk,List.getElem?_take_of_lt (by show j*3+t<T.length*3;omega)]
   have h0:=hf 0 (by decide);have h1':=hf 1 (by decide);rw[flatten_at cells j 0 _ hlen hcs2 (by decide)]at h0;rw[flatten_at cells j 1 _ hlen hcs2 (by decide)]at h1';exact⟨h0,h1'⟩
theorem pgcopy2_any{P:Pg}{ps:List Value}(hP:PgRL (fun _=>True) w P ps)(hB:PgB P):Calls Tryz.prog 20 #[.agg ps.toArray] w (CpyR2 w P):=by
 obtain⟨y0,y1,y4,y5,n0,n1,n2,n3,n4,rfl,hL⟩:=hP;obtain⟨i8,z8,f6,g2,g5⟩:=zero30;obtain⟨d8,e8,r8⟩:=under30;have h4:Tryz.prog.follows .mixedOrders=true:=by kernel_rfl
 have HP:=O hL;have HB:=O hB;have hone:Hid ((pgC P y0 y1 y4 y5 n0 n1 n2 n3 n4 []).length=13/\∀v∈pgC P y0 y1 y4 y5 n0 n1 n2 n3 n4 [],v.oneCell'=true):=O (PgRL.cells ⟨y0,y1,y4,y5,n0,n1,n2,n3,n4,z,hL⟩);clear hL hB;obtain⟨ps,hps⟩:=eX (pgC P y0 y1 y4 y5 n0 n1 n2 n3 n4 []);rw[hps]at hone ⊢;have HPS:=O hps;clear hps;have hl13:=hone.o.1;go_enter Tryz.func20,Tryz.ntmps20;refine wk fun KK U=>?_;go_wp2_with (first
  | ((with_reducible refine aa 1 (.box 30 _) ?_);refine wpList_box_blk z (.tmp 0) z ps z w.1.size z ?_;intro W1 k1 b1 s1;have K1:=O k1;have B1:=O b1;clear k1 b1)
  | ((with_reducible refine aa 2 (.alloc 30) ?_);refine wpList_alloc_blk f6 g2 g5 z z (w.1.size+1) s1 ?_;intro W2 k2 b2 s2;have K2:=O k2;have B2:=O b2;clear k2 b2)
 )
 refine U.o _ _ ?_;clear U KK;refine wk fun KK U=>?_;have K12:=O (K1.o.below B2.o);go_wp2_with (first
  | ((with_reducible refine l1 7 30 ?_);refine wpList_load_blk e8 r8 info30 z (.tmp 1) z w.1.size ps z (O K12.o) hl13 ?_)
  | ((with_reducible refine aa 3 (.alloc 30) ?_);refine wpList_alloc_blk f6 g2 g5 z z (w.1.size+2) s2 ?_;intro W3 k3 b3 s3;have K3:=O k3;have B3:=O b3;clear k3 b3)
  | ((with_reducible refine s0 30 ?_);refine wpList_store_ch info30 z (.tmp 3) (.tmp 7) z (w.1.size+2) ps _ z z K3.o z hone.o ?_;intro W4 k4 c4;have K4:=O (And.intro k4 c4);clear k4 c4)
 )
 refine U.o _ _ ?_;clear U KK;have hb12:Below w.1.size w W2:=B1.o.trans (B2.o.mono B1.o.size);have hb23:bL w W3:=hb12.trans (B3.o.mono hb12.size);have E4:Hid (Cq w ps ps W4):=O ⟨K4.o.2.below (by omega) hb23,K4.o.2.blk (by omega) (K12.o.below B3.o),K4.o.2.blk (by omega) (K2.o.below B3.o),K4.o.1⟩;clear K1 B1 K2 B2 K12 K3 B3 K4 hb12 hb23 s1 s2;rw[<-HPS.o]at E4;clear hone HPS hl13;refine wk fun KK U=>?_;obtain⟨V,hV⟩:=eX W4.drew;have EV:=O (E4.o.below (show bL W4 V by rw[<-hV];exact(Below.refl _ _).drew));clear E4;go_wp2;refine wp_region_x [10,11,12,13,14] (fun W=>bL V W) h4 ?_;rw[hV];clear hV;have HS:Hid (bL V V):=O (Below.refl _ _);refine ag 0 ?_
 refine af (fun W=>W.cell? ⟨w.1.size,0,none⟩=some y0) 1 (fun W h=>by rw[((EV.o.below h).p).cell];rfl) ?_;refine ag 3 ?_;refine af (fun W=>W.cell? ⟨w.1.size,1,none⟩=some y1) 4 (fun W h=>by rw[((EV.o.below h).p).cell];rfl) ?_;refine nm ?_;refine ag 6 ?_;refine af (fun W=>W.cell? ⟨w.1.size,4,none⟩=some y4) 7 (fun W h=>by rw[((EV.o.below h).p).cell];rfl) ?_;refine nm ?_;refine oD 2 fun K F=>?_;go_simp;refine(clone_grow clone47 (flI 2) (w:=V) (HP.o.vars.keep fun b o u _ hu=>below_cell EV.o.b b o u hu) HB.o.v).mono ?_;rintro e A0 ⟨hb,a0,c0,rfl,hg⟩;have P0:Hid (bL V A0):=O hb;have G0:Hid (Grow (elI 2) (w.1.size+3) A0 (.slice a0 P.vars.length c0) P.vars):=O (Grow.base hg EV.o.lt)
 apply F _ _ (fun _=>P0.o);clear F K hb hg;refine ag 9 ?_;refine nm ?_;refine oD 5 fun K F=>?_;go_simp;refine(clone_grow clone48 (flI 3) (w:=A0) (HP.o.arrays.keep fun b o u _ hu=>below_cell (EV.o.b.trans (P0.o.mono EV.o.b.size)) b o u hu) HB.o.a).mono ?_;rintro e A1 ⟨hb,a1,c1,rfl,hg⟩;have P1:Hid (bL V A1):=O (P0.o.trans (hb.mono P0.o.size));have G1:Hid (Grow (elI 3) (w.1.size+3) A1 (.slice a1 P.arrays.length c1) P.arrays):=O (Grow.base hg (Nat.le_trans EV.o.lt P0.o.size));have G01:=O (G0.o.below hb);apply F _ _ (fun _=>P1.o);clear F K hb hg G0;refine oD 8 fun K F=>?_;go_simp
 refine(clone_grow clone48 (flI 3) (w:=A1) (HP.o.chans.keep fun b o u _ hu=>below_cell (EV.o.b.trans (P1.o.mono EV.o.b.size)) b o u hu) HB.o.c).mono ?_;rintro e A2 ⟨hb,a2,c2,rfl,hg⟩;have P2:Hid (bL V A2):=O (P1.o.trans (hb.mono P1.o.size));have G2:Hid (Grow (elI 3) (w.1.size+3) A2 (.slice a2 P.chans.length c2) P.chans):=O (Grow.base hg (Nat.le_trans EV.o.lt P1.o.size));have G02:=O (G01.o.below hb);have G12:=O (G1.o.below hb);have E2:=O (EV.o.below P2.o);apply F _ _ (fun _=>P2.o);clear F K hb hg G01 G1 EV;refine oD 10 fun K F=>?_;refine wp_store_one (by kernel_rfl) (.tmp 17) (.tmp 10) z (w.1.size+2) 0 30 (.slice a0 P.vars.length c0) _ z z z z E2.o.o (by simp[pgC]) ?_;intro W5 k5 c5
 have E5:Hid (Cq w (pgC P y0 y1 y4 y5 n0 n1 n2 n3 n4 []) (pgC P (.slice a0 P.vars.length c0) y1 y4 y5 n0 n1 n2 n3 n4 []) W5):=O (E2.o.setO k5 c5);have G5:=O (And.intro (c5.grow G02.o (by omega)) (And.intro (c5.grow G12.o (by omega)) (c5.grow G2.o (by omega))));apply F _ _ nofun;clear F K k5 c5 E2 G02 G12 G2;refine oD 11 fun K F=>?_;go_simp;apply F _ _ nofun;clear F K;refine oD 12 fun K F=>?_;refine wp_store_one (by kernel_rfl) (.tmp 18) (.tmp 13) z (w.1.size+2) 1 30 (.slice a1 P.arrays.length c1) _ z z z z E5.o.o (by simp[pgC]) ?_;intro W6 k6 c6
 have E6:Hid (Cq w (pgC P y0 y1 y4 y5 n0 n1 n2 n3 n4 []) (pgC P (.slice a0 P.vars.length c0) (.slice a1 P.arrays.length c1) y4 y5 n0 n1 n2 n3 n4 []) W6):=O (E5.o.setO k6 c6);have G6:=O (And.intro (c6.grow G5.o.1 (by omega)) (And.intro (c6.grow G5.o.2.1 (by omega)) (c6.grow G5.o.2.2 (by omega))));apply F _ _ nofun;clear F K k6 c6 E5 G5;refine oD 13 fun K F=>?_;go_simp;apply F _ _ nofun;clear F K;refine oD 14 fun K F=>?_;refine wp_store_one (by kernel_rfl) (.tmp 19) (.tmp 16) z (w.1.size+2) 4 30 (.slice a2 P.chans.length c2) _ z z z z E6.o.o (by simp[pgC]) ?_;intro W7 k7 c7
 have E7:Hid (Cq w (pgC P y0 y1 y4 y5 n0 n1 n2 n3 n4 []) (pgC P (.slice a0 P.vars.length c0) (.slice a1 P.arrays.length c1) (.slice a2 P.chans.length c2) y5 n0 n1 n2 n3 n4 []) W7):=O (E6.o.setO k7 c7);have G7:=O (And.intro (c7.grow G6.o.1 (by omega)) (And.intro (c7.grow G6.o.2.1 (by omega)) (c7.grow G6.o.2.2 (by omega))));apply F _ _ nofun;clear F K k7 c7 E6 G6 P0 P1 P2 HS;simp only[Act.put];refine dn ?_;go_wp2_with fail;refine U.o _ _ ?_;clear U KK;refine wk fun KK U=>?_;have c5:W7.cell? ⟨w.1.size,5,none⟩=some y5:=by rw[E7.o.p.cell];rfl
 have hcl:=clone_th (w:=W7) (HP.o.threads.keep fun b o u _ hu=>below_cell E7.o.b b o u hu) HB.o.t;go_wp2_with fail;refine hcl.mono ?_;clear hcl c5;rintro e W8 ⟨hb,ga,gc,rfl,hrm,hT⟩;have E8:=O (E7.o.below hb);have hga:∀b,ga=some ⟨b,0,none⟩->W7.1.size<=b:=fun b e=>by
  rcases hT with ⟨h,-⟩|⟨g,C,h1,h2⟩
  .rw[e]at h;cases h
  .rw[e]at h1;cases h1;exact h2.ge
 have hk8:∀ (b o:Nat) (u:Value),W7.cellF ⟨b,o,none⟩=some u->W8.cellF ⟨b,o,none⟩=some u:=fun b o u hu=>below_cell hb b o u hu;have HC8:Hid (Ck3 (fun c=>w.1.size+3<=c/\ga≠some ⟨c,0,none⟩) P (.slice a0 P.vars.length c0) (.slice a1 P.arrays.length c1) (.slice a2 P.chans.length c2) W8):=O ⟨(G7.o.1.roN (by decide) hga).keep fun b o u _=>hk8 b o u,(G7.o.2.1.roN (by decide) hga).keep fun b o u _=>hk8 b o u,(G7.o.2.2.roN (by decide) hga).keep fun b o u _=>hk8 b o u⟩;have HT8:Hid ((ga=none/\P.threads=[])∨∃g C,ga=some ⟨g,0,none⟩/\Tq (w.1.size+3) 0 g P.threads C W8):=O (by
  rcases hT with h|⟨g,C,h1,h2⟩
  .exact .inl h
  .refine .inr ⟨g,C,h1,h2.k,Nat.le_trans E7.o.lt h2.ge,h2.ln,fun j x hj=>absurd hj (Nat.not_lt_zero _),h2.r⟩)
 have HR:=O hrm;clear hb hrm hT hga hk8 E7 G7;obtain⟨NT,hNT⟩:=eX P.threads.length;have HNT:=O hNT;rw[hNT];go_wp2_with (first
  | ((with_reducible refine s0 25 ?_);refine wpList_store_one (by kernel_rfl) z (.tmp 23) (.tmp 22) z (w.1.size+2) 5 30 (.slice ga NT gc) _ z z z z E8.o.o (by simp[pgC]) ?_;intro W9 k9 c9;have K9:=O (And.intro k9 c9);clear k9 c9)
 )
 refine U.o _ _ ?_;have E9:Hid (Cq w (pgC P y0 y1 y4 y5 n0 n1 n2 n3 n4 []) (pgC P (.slice a0 P.vars.length c0) (.slice a1 P.arrays.length c1) (.slice a2 P.chans.length c2) (.slice ga P.threads.length gc) n0 n1 n2 n3 n4 []) W9):=O (E8.o.setO (by have h:=K9.o.1;rw[HNT.o];exact h) K9.o.2);have HC9:=O (HC8.o.keep fun b o u hb hu=>by rw[K9.o.2.cellF (by have:=hb.1;omega)];exact hu)
 have HT9:Hid ((ga=none/\P.threads=[])∨∃g C,ga=some ⟨g,0,none⟩/\Tq (w.1.size+3) 0 g P.threads C W9):=O (HT8.o.imp id fun ⟨g,C,h1,h2⟩=>⟨g,C,h1,h2.ch K9.o.2 (by omega)⟩);exact cp_loop HP (O HB.o.n) (O HB.o.b) HR E9 HC9 HT9
def ovL:Nat->List Th->List Yv
 |_,[]=> []
 |i,x::r=> (wkL 1 x.body).map (fun y=> ((i:Int),y.2))++ovL (i+1) r
theorem PgRL.kept{ok:Nat->Prop}{w':World}{P:Pg}{ps:List Value}(h:PgRL ok w P ps)(g:∀ (b o:Nat) (u:Value),ok b->w.cellF ⟨b,o,none⟩=some u->w'.cellF ⟨b,o,none⟩=some u):PgRL ok w' P ps:=by obtain⟨v0,v1,v4,v5,n0,n1,n2,n3,n4,he,hl⟩:=h;exact⟨v0,v1,v4,v5,n0,n1,n2,n3,n4,he,hl.keep g⟩
theorem PgRL.weak'{ok ok':Nat->Prop}{P:Pg}{ps:List Value}(h:PgRL ok w P ps)(g:∀b,ok b->ok' b):PgRL ok' w P ps:=by obtain⟨v0,v1,v4,v5,n0,n1,n2,n3,n4,he,hl⟩:=h;exact⟨v0,v1,v4,v5,n0,n1,n2,n3,n4,he,hl.weak g⟩
def allS(P:Pg):List St:=(ovL 0 P.threads).map Prod.snd
def St.sid:St->Int
 | .mk _ _ _ _ _ _ _ _ _ id _ _ _=>id
mutual
def alS:St->List St
 | .mk k l c s t x y body els id sl ot lo=> .mk k l c s t x y body els id sl ot lo::(alL body++alL els)
def alL:List St->List St
 | []=> []
 |s::r=>alS s++alL r
end
mutual
theorem wkS_snd (d:Nat):∀s:St,(wkS d s).map Prod.snd=alS s
 | .mk k l c s t x y body els id sl ot lo=>by
  unfold wkS alS
  rw[List.map_cons,List.map_append,wkL_snd (d+1) body,wkL_snd (d+1) els]
theorem wkL_snd (d:Nat):∀l:List St,(wkL d l).map Prod.snd=alL l
 | []=>rfl
 |s::r=>by
  unfold wkL alL
  rw[List.map_append,wkS_snd d s,wkL_snd d r]
end
theorem alL_app:∀ (l m:List St),alL (l++m)=alL l++alL m
 | [],m=>by simp[alL]
 |s::l,m=>by rw[List.cons_append,alL,alL,alL_app l m,List.append_assoc]
theorem alL_len:∀ (l:List St) (i:Nat),i<l.length->(alL (l.take i)).length+(alS (l.getD i default)).length<=(alL l).length:=fun l i hi=>by
 have h:alL l=alL (l.take i)++(alS (l.getD i default)++alL (l.drop (i+1))):=by
  conv=>lhs;rw[<-List.take_append_drop i l]
  rw[alL_app,List.drop_eq_getElem_cons hi,alL,List.getD_eq_getElem?_getD,List.getElem?_eq_getElem hi];rfl
 rw[h,List.length_append,List.length_append];omega
def St.bdy:St->List St
 | .mk _ _ _ _ _ _ _ body _ _ _ _ _=>body
def St.elz:St->List St
 | .mk _ _ _ _ _ _ _ _ els _ _ _ _=>els
theorem alS_eq:∀s:St,alS s=s::(alL s.bdy++alL s.elz)
 | .mk _ _ _ _ _ _ _ _ _ _ _ _ _=>by unfold alS;rfl
def alT:List Th->List St
 | []=> []
 |x::r=>alL x.body++alT r
theorem ovL_snd:∀ (i:Nat) (l:List Th),(ovL i l).map Prod.snd=alT l
 |_,[]=>rfl
 |i,x::r=>by
  rw[ovL,alT,List.map_append,List.map_map,ovL_snd (i+1) r,<-wkL_snd 1 x.body]
  rfl
theorem allS_eq(P:Pg):allS P=alT P.threads:=ovL_snd 0 _
def Nums(n m:Nat)(l:List St):Prop:=n<=m/\l.map St.sid=(List.range' n (m-n)).map fun k:Nat=> (k:Int)
theorem Nums.nil(n:Nat):Nums n n []:=⟨Nat.le_refl _,by simp⟩
theorem Nums.app{l r:List St}(h:Nums n m l)(g:Nums m k r):Nums n k (l++r):=by
 refine⟨Nat.le_trans h.1 g.1,?_⟩;have e:List.range' n (k-n)=List.range' n (m-n)++List.range' m (k-m):=by have h1:=h.1;have h2:=g.1;have:=List.range'_append_1 (s:=n) (m:=m-n) (n:=k-m);rw[show n+(m-n)=m by omega,show m-n+(k-m)=k-n by omega]at this;exact this.symm
 rw[List.map_append,h.2,g.2,e,List.map_append]
theorem Nums.cons{s:St}{l:List St}(h:s.sid=(n:Int))(g:Nums (n+1) m l):Nums n m (s::l):=by refine Nums.app (l:=[s]) (m:=n+1) ⟨by omega,?_⟩ g;rw[show n+1-n=1 by omega];simp[h]
theorem Nums.len{l:List St}(h:Nums n m l):l.length=m-n:=by have:=congrArg List.length h.2;simpa using this
structure LawP (P:Pg):Prop where
 b:PgB P
 n:Nums 0 P.stmts (allS P)
 s:P.stmts<=512
 t:∀x∈P.threads,∃a m,Nums a m (alL x.body)
mutual
theorem cn_len:∀s:St,s.cn=(alS s).length
 | .mk k l c s t x y body els id sl ot lo=>by
  unfold St.cn alS
  rw[List.length_cons,List.length_append,cns_len body,cns_len els]
theorem cns_len:∀l:List St,St.cns l=(alL l).length
 | []=>rfl
 |s::r=>by
  unfold St.cns alL
  rw[List.length_append,cn_len s,cns_len r]
end
theorem len_alL:∀l:List St,l.length<=(alL l).length
 | []=>Nat.le_refl _
 |s::r=>by
  have h:=len_alL r
  rw[alL,alS_eq,List.length_append,List.length_cons,List.length_cons]
  omega
mutual
theorem szl_of:∀s:St,s.sm->(alS s).length<=10000000->s.szl
 | .mk k l c s t x y body els id sl ot lo,h,hn=>by
  unfold St.sm at h
  unfold alS at hn
  rw[List.length_cons,List.length_append]at hn
  have h1:=len_alL body
  have h2:=len_alL els
  unfold St.szl
  exact⟨⟨h.1,h.2.1⟩,⟨by omega,by omega⟩,szs_of body h.2.2.1 (by omega),szs_of els h.2.2.2 (by omega)⟩
theorem szs_of:∀l:List St,St.sms l->(alL l).length<=10000000->St.szs l
 | [],_,_=>by unfold St.szs;trivial
 |s::r,h,hn=>by
  unfold St.sms at h
  unfold alL at hn
  rw[List.length_append]at hn
  unfold St.szs
  exact⟨szl_of s h.1 (by omega),szs_of r h.2 (by omega)⟩
end
mutual
theorem fEx_sm {L:List Nm} {p:Int×Int}:∀ (e:Ex) {e':Ex},fEx L p e= .ok e'->e.sm->e'.sm
 | .mk k n s sl lo o args,e',h,hs=>by
  unfold fEx at h
  split at h
  .cases h
  .split at h
   .cases h
   .rename_i l hl
    cases h
    unfold Ex.sm at hs ⊢
    have:=fExs_sm args hl hs.2
    exact⟨by omega,this.1⟩
theorem fExs_sm {L:List Nm} {p:Int×Int}:∀ (r:List Ex) {r':List Ex},fExs L p r= .ok r'->Ex.sms r->Ex.sms r'/\r'.length=r.length
 | [],r',h,hs=>by
  unfold fExs at h
  cases h
  exact⟨by unfold Ex.sms;trivial,rfl⟩
 |x::r,r',h,hs=>by
  unfold fExs at h
  unfold Ex.sms at hs
  split at h
  .cases h
  .rename_i y hy
   split at h
   .cases h
   .rename_i l hl
    cases h
    have h1:=fEx_sm x hy hs.1
    have h2:=fExs_sm r hl hs.2
    exact⟨by unfold Ex.sms;exact⟨h1,h2.1⟩,by simp[h2.2]⟩
end
mutual
theorem fSt_num {L:List Nm} {loc n mo:Nat}:∀ (s:St) {s':St} {n' mo':Nat},fSt L loc n mo s= .ok (s',n',mo')->n<=512->s.sm->Nums n n' (alS s')/\n'<=512/\s'.sm
 | .mk k l c s t x y body els id sl ot lo,s',n',mo',h,hn,hs=>by
  unfold fSt at h
  unfold St.sm at hs
  split at h
  .cases h
  rename_i hne
  split at h
  .cases h
  rename_i y' hy
  split at h
  .cases h
  rename_i x' hx
  split at h
  .cases h
  split at h
  .cases h
  rename_i b2 n2 mo2 hb
  split at h
  .cases h
  rename_i e2 n3 mo3 he
  cases h
  have h1:=fSts_num body hb (by omega) hs.2.2.1
  have h2:=fSts_num els he h1.2.1 hs.2.2.2
  refine⟨?_,h2.2.1,?_⟩
  .unfold alS
   exact Nums.cons rfl (h1.1.app h2.1)
  .unfold St.sm
   exact⟨fEx_sm x hx hs.1,fEx_sm y hy hs.2.1,h1.2.2,h2.2.2⟩
theorem fSts_num {L:List Nm} {loc n mo:Nat}:∀ (r:List St) {r':List St} {n' mo':Nat},fSts L loc n mo r= .ok (r',n',mo')->n<=512->St.sms r->Nums n n' (alL r')/\n'<=512/\St.sms r'
 | [],r',n',mo',h,hn,hs=>by
  unfold fSts at h
  cases h
  exact⟨by unfold alL;exact Nums.nil _,hn,by unfold St.sms;trivial⟩
 | .mk k l c s t x y body els id sl ot lo::r,r',n',mo',h,hn,hs=>by
  unfold fSts at h
  unfold St.sms at hs
  split at h
  .cases h
  rename_i s2 n2 mo2 h1
  split at h
  .cases h
  rename_i r2 n3 mo3 h2
  have g1:=fSt_num _ h1 hn hs.1
  have g2:Nums n2 n3 (alL r2)/\n3<=512/\St.sms r2:=by
   change (if k=1 then fSts (L++[{text:=s,kind:=0,slot:=loc}]) (loc+1) n2 (max mo2 (loc+1)) r else fSts L loc n2 mo2 r)=_ at h2
   split at h2
   .exact fSts_num r h2 g1.2.1 hs.2
   .exact fSts_num r h2 g1.2.1 hs.2
  cases h
  refine⟨?_,g2.2.1,?_⟩
  .unfold alL
   exact g1.1.app g2.1
  .unfold St.sms
   exact⟨g1.2.2,g2.2.2⟩
end
def alB:List (List St×Nat)->List St
 | []=> []
 |x::r=>alL x.1++alB r
theorem bods_num{L:List Nm}:∀ (l:List De) {n:Nat} {bs:List (List St×Nat)} {n':Nat},bods L n l= .ok (bs,n')->n<=512->(∀d∈l,St.sms d.body)->Nums n n' (alB bs)/\n'<=512/\(∀b∈bs,St.sms b.1/\(alL b.1).length<=512/\∃a m,Nums a m (alL b.1))/\bs.length=(l.filter fun d=>decide (d.kind=6)).length
 | [],n,bs,n',h,hn,hs=>by
  unfold bods at h
  cases h
  exact⟨by unfold alB;exact Nums.nil _,hn,fun b hb=>by simp at hb,z⟩
 |d::r,n,bs,n',h,hn,hs=>by
  unfold bods at h
  split at h
  .rename_i h6
   split at h
   .cases h
   rename_i b n2 mo hb
   split at h
   .cases h
   rename_i l2 n3 hr
   cases h
   have g1:=fSts_num d.body hb hn (hs d (by simp))
   obtain⟨g2,g3,g4,g5⟩:=bods_num r hr g1.2.1 fun d hd=>hs d (by simp[hd])
   refine⟨?_,g3,fun x hx=>?_,?_⟩
   .unfold alB
    exact g1.1.app g2
   .rcases List.mem_cons.1 hx with rfl|hx
    .exact⟨g1.2.2,by have:=g1.1.len;have:=g1.2.1;show (alL b).length<=512;omega,_,_,g1.1⟩
    .exact g4 x hx
   .rw[List.filter_cons_of_pos (by simpa using h6),List.length_cons,List.length_cons,g5]
  .rename_i h6
   obtain⟨g2,g3,g4,g5⟩:=bods_num r h hn fun d hd=>hs d (by simp[hd])
   exact⟨g2,g3,g4,by rw[List.filter_cons_of_neg (by simpa using h6),g5]⟩
structure Lens (P:Pg) (k:Nat):Prop where
 v:P.vars.length<=k/\P.arrays.length<=k/\P.chans.length<=k/\P.threads.length<=k
 n:P.nv.length<=k/\P.na.length<=k/\P.nm.length<=k/\P.nc.length<=k/\P.nh.length<=k
 b:∀t∈P.threads,t.body=[]
def dclI(P:Pg)(cells:Int)(d:De):Except Flw (Pg×Nat×Int):=
 let p:=(d.line,d.col)
 if d.kind=1 then .ok ({P with vars:=P.vars++[d.num],nv:=P.nv++[d.name]},P.vars.length,cells)
  else if d.kind=2 then (if d.num<1∨256<d.num∨256<cells+d.num then .error (p,134) else .ok ({P with arrays:=P.arrays++[d.num],na:=P.na++[d.name]},P.arrays.length,cells+d.num))
  else if d.kind=3 then .ok ({P with mutexes:=P.mutexes+1,nm:=P.nm++[d.name]},P.mutexes,cells)
  else if d.kind=4 then .ok ({P with conds:=P.conds+1,nc:=P.nc++[d.name]},P.conds,cells)
  else if d.kind=5 then (if d.num<1∨16<d.num then .error (p,134) else .ok ({P with chans:=P.chans++[d.num],nh:=P.nh++[d.name]},P.chans.length,cells))
  else .ok ({P with threads:=P.threads++[Th.mk d.name 0 []]},P.threads.length,cells)
theorem dcl_eq(P:Pg)(L:List Nm)(cells:Int)(i:Nat)(d:De):dcl P L cells i d=if (lkN L d.name).isSome then .error ((d.line,d.col),130) else match dclI P cells d with
 | .error e=> .error e
 | .ok (P',sl,cells')=>if 64<=i then .error ((d.line,d.col),134) else .ok (P',L++[Nm.mk d.name d.kind.toNat sl],cells'):=rfl
theorem dclI_nz{P:Pg}{c:Int}{d:De}{e:Flw}(h:dclI P c d= .error e):e.2≠0:=by
 unfold dclI at h;repeat' split at h
 all_goals (cases h;try simp)
theorem dcls_nz:∀ (l:List De) {P:Pg} {L:List Nm} {c:Int} {i:Nat} {e:Flw},dcls P L c i l= .error e->e.2≠0
 | [],P,L,c,i,e,h=>by
  unfold dcls at h
  cases h
 |d::r,P,L,c,i,e,h=>by
  unfold dcls at h
  split at h
  .rename_i e2 h2
   cases h
   rw[dcl_eq]at h2
   split at h2
   .cases h2
    simp
   generalize hI:dclI P c d=I at h2
   rcases I with e|⟨P2,sl,c2⟩
   .cases h2
    exact dclI_nz hI
   .simp only at h2
    split at h2
    .cases h2
     simp
    .cases h2
  .exact dcls_nz r h
theorem fnd_nz{L:List Nm}{b:Bool}{p:Int×Int}{e:Flw}(h:fnd L s k b p= .error e):e.2≠0:=by
 unfold fnd at h;repeat' split at h
 all_goals (cases h;try simp)
mutual
theorem fEx_nz {L:List Nm} {p:Int×Int}:∀ (x:Ex) {e:Flw},fEx L p x= .error e->e.2≠0
 | .mk k n s sl lo o args,e,h=>by
  unfold fEx at h
  split at h
  .rename_i e2 h2
   cases h
   split at h2
   .generalize hF:fnd L s 1 true p=F at h2
    rcases F with e3|x
    .cases h2
     exact fnd_nz hF
    .cases h2
   .split at h2
    .generalize hF:fnd L s 2 false p=F at h2
     rcases F with e3|x
     .cases h2
      exact fnd_nz hF
     .cases h2
    .cases h2
  .split at h
   .rename_i e2 h2
    cases h
    exact fExs_nz args h2
   .cases h
theorem fExs_nz {L:List Nm} {p:Int×Int}:∀ (r:List Ex) {e:Flw},fExs L p r= .error e->e.2≠0
 | [],e,h=>by
  unfold fExs at h
  cases h
 |x::r,e,h=>by
  unfold fExs at h
  split at h
  .rename_i e2 h2
   cases h
   exact fEx_nz x h2
  .split at h
   .rename_i e2 h2
    cases h
    exact fExs_nz r h2
   .cases h
end
theorem stHead_nz{L:List Nm}{loc:Nat}{p:Int×Int}{k:Int}{sl ot:Int}{lo:Bool}{e:Flw}(h:stHead L loc p k s t sl ot lo= .error e):e.2≠0:=by
 unfold stHead at h;split at h
 .repeat' split at h
  all_goals (cases h;try simp)
 split at h
 .cases h
 split at h
 .rename_i e2 h2;cases h;exact fnd_nz h2
 split at h
 .cases h
 split at h
 .rename_i e2 h2;cases h;exact fnd_nz h2
 .cases h
mutual
theorem fSt_nz {L:List Nm} {loc n mo:Nat}:∀ (s:St) {e:Flw},fSt L loc n mo s= .error e->e.2≠0
 | .mk k l c s t x y body els id sl ot lo,e,h=>by
  unfold fSt at h
  split at h
  .cases h
   simp
  split at h
  .rename_i e2 h2
   cases h
   exact fEx_nz y h2
  split at h
  .rename_i e2 h2
   cases h
   exact fEx_nz x h2
  split at h
  .rename_i e2 h2
   cases h
   exact stHead_nz h2
  split at h
  .rename_i e2 h2
   cases h
   exact fSts_nz body h2
  split at h
  .rename_i e2 h2
   cases h
   exact fSts_nz els h2
  .cases h
theorem fSts_nz {L:List Nm} {loc n mo:Nat}:∀ (r:List St) {e:Flw},fSts L loc n mo r= .error e->e.2≠0
 | [],e,h=>by
  unfold fSts at h
  cases h
 | .mk k l c s t x y body els id sl ot lo::r,e,h=>by
  unfold fSts at h
  split at h
  .rename_i e2 h2
   cases h
   exact fSt_nz _ h2
  rename_i s2 n2 mo2 h1
  split at h
  .rename_i e2 h2
   cases h
   change (if k=1 then fSts (L++[{text:=s,kind:=0,slot:=loc}]) (loc+1) n2 (max mo2 (loc+1)) r else fSts L loc n2 mo2 r)=_ at h2
   split at h2
   .exact fSts_nz r h2
   .exact fSts_nz r h2
  .cases h
end
theorem bods_nz{L:List Nm}:∀ (l:List De) {n:Nat} {e:Flw},bods L n l= .error e->e.2≠0
 | [],n,e,h=>by
  unfold bods at h
  cases h
 |d::r,n,e,h=>by
  unfold bods at h
  split at h
  .split at h
   .rename_i e2 h2
    cases h
    exact fSts_nz _ h2
   split at h
   .rename_i e2 h2
    cases h
    exact bods_nz r h2
   .cases h
  .exact bods_nz r h
theorem dcl_len{P P':Pg}{L L':List Nm}{c c':Int}{d:De}(h:dcl P L c i d= .ok (P',L',c'))(g:Lens P i):Lens P' (i+1)/\i+1<=64/\P'.threads.length>=P.threads.length+(if d.kind=6 then 1 else 0):=by
 obtain⟨⟨v1,v2,v3,v4⟩,⟨n1,n2,n3,n4,n5⟩,hb⟩:=g;rw[dcl_eq]at h;split at h
 .cases h
 generalize he:dclI P c d=I at h;rcases I with e|⟨P2,sl,c2⟩
 .cases h
 simp only at h;split at h
 .cases h
 rename_i h64;cases h;have hi:i+1<=64:=by omega
 unfold dclI at he;by_cases k1:d.kind=1
 .rw[if_pos k1]at he;cases he;refine⟨⟨⟨?_,?_,?_,?_⟩,⟨?_,?_,?_,?_,?_⟩,hb⟩,hi,by rw[if_neg (by omega)];exact Nat.le_refl _⟩<;>simp<;>omega
 rw[if_neg k1]at he;by_cases k2:d.kind=2
 .rw[if_pos k2]at he;split at he
  .cases he
  cases he;refine⟨⟨⟨?_,?_,?_,?_⟩,⟨?_,?_,?_,?_,?_⟩,hb⟩,hi,by rw[if_neg (by omega)];exact Nat.le_refl _⟩<;>simp<;>omega
 rw[if_neg k2]at he;by_cases k3:d.kind=3
 .rw[if_pos k3]at he;cases he;refine⟨⟨⟨?_,?_,?_,?_⟩,⟨?_,?_,?_,?_,?_⟩,hb⟩,hi,by rw[if_neg (by omega)];exact Nat.le_refl _⟩<;>simp<;>omega
 rw[if_neg k3]at he;by_cases k4:d.kind=4
 .rw[if_pos k4]at he;cases he;refine⟨⟨⟨?_,?_,?_,?_⟩,⟨?_,?_,?_,?_,?_⟩,hb⟩,hi,by rw[if_neg (by omega)];exact Nat.le_refl _⟩<;>simp<;>omega
 rw[if_neg k4]at he;by_cases k5:d.kind=5
 .rw[if_pos k5]at he;split at he
  .cases he
  cases he;refine⟨⟨⟨?_,?_,?_,?_⟩,⟨?_,?_,?_,?_,?_⟩,hb⟩,hi,by rw[if_neg (by omega)];exact Nat.le_refl _⟩<;>simp<;>omega
 rw[if_neg k5]at he;cases he;refine⟨⟨⟨?_,?_,?_,?_⟩,⟨?_,?_,?_,?_,?_⟩,fun t ht=>?_⟩,hi,by split<;>simp⟩;any_goals (simp;omega)
 rcases List.mem_append.1 ht with ht|ht
 .exact hb t ht
 .simp at ht;rw[ht]
theorem dcls_len:∀ (l:List De) {P P':Pg} {L L':List Nm} {c:Int} {i:Nat},dcls P L c i l= .ok (P',L')->Lens P i->i<=64->Lens P' 64/\P'.threads.length>=P.threads.length+(l.filter fun d=>decide (d.kind=6)).length
 | [],P,P',L,L',c,i,h,g,hi=>by
  unfold dcls at h
  cases h
  obtain⟨⟨v1,v2,v3,v4⟩,⟨n1,n2,n3,n4,n5⟩,hb⟩:=g
  exact⟨⟨⟨by omega,by omega,by omega,by omega⟩,⟨by omega,by omega,by omega,by omega,by omega⟩,hb⟩,by simp⟩
 |d::r,P,P',L,L',c,i,h,g,hi=>by
  unfold dcls at h
  split at h
  .cases h
  rename_i P2 L2 c2 h2
  obtain⟨g1,g2,g3⟩:=dcl_len h2 g
  obtain⟨g4,g5⟩:=dcls_len r h g1 g2
  refine⟨g4,?_⟩
  by_cases h6:d.kind=6
  .rw[if_pos h6]at g3
   rw[List.filter_cons_of_pos (by simpa using h6),List.length_cons]
   omega
  .rw[if_neg h6]at g3
   rw[List.filter_cons_of_neg (by simpa using h6)]
   omega
theorem putTh_al:∀ (T:List Th) (bs:List (List St×Nat)),(∀t∈T,t.body=[])->bs.length<=T.length->alT (putTh T bs)=alB bs/\(putTh T bs).length=T.length/\∀x∈putTh T bs,x.body=[]∨∃b∈bs,x.body=b.1
 | [],bs,_,h=>by
  obtain rfl:bs=[]:=List.eq_nil_of_length_eq_zero (by simpa using h)
  exact⟨z,z,fun x hx=>by simp[putTh]at hx⟩
 |t::r,[],ht,h=>by
  have key:∀T:List Th,(∀t∈T,t.body=[])->alT T=[]:=fun T=>by
   induction T with
   |nil=>exact fun _=>z
   |cons a r ih=>
    intro h
    rw[alT,h a (by simp),ih fun t ht=>h t (by simp[ht])]
    rfl
  refine⟨key _ ht,z,fun x hx=> .inl (ht x hx)⟩
 |t::r,(b,mo)::q,ht,h=>by
  obtain⟨h1,h2,h3⟩:=putTh_al r q (fun x hx=>ht x (by simp[hx])) (by simpa using h)
  refine⟨?_,?_,fun x hx=>?_⟩
  .rw[putTh,alT,alB,h1]
  .rw[putTh,List.length_cons,List.length_cons,h2]
  .rw[putTh]at hx
   rcases List.mem_cons.1 hx with rfl|hx
   .exact .inr ⟨(b,mo),by simp,z⟩
   .rcases h3 x hx with h|⟨y,hy,e⟩
    .exact .inl h
    .exact .inr ⟨y,by simp[hy],e⟩
theorem find_law{l:List De}(hs:∀d∈l,St.sms d.body)(h0:(findR l).2.2=0):LawP (findR l).1:=by
 unfold findR at h0 ⊢;split at h0
 .rename_i e he;exact absurd h0 (dcls_nz l he)
 rename_i P L hd;split at h0
 .cases h0
 rename_i x hx;split at h0
 .cases h0
 rename_i h6;split at h0
 .rename_i e he;exact absurd h0 (bods_nz l he)
 rename_i bs n hb;simp only[if_neg h6];obtain⟨g1,g2⟩:=dcls_len l hd ⟨⟨by simp[zPg],by simp[zPg],by simp[zPg],by simp[zPg]⟩,⟨by simp[zPg],by simp[zPg],by simp[zPg],by simp[zPg],by simp[zPg]⟩,by simp[zPg]⟩ (by decide);obtain⟨b1,b2,b3,b4⟩:=bods_num l hb (by decide) hs;have hlen:bs.length<=P.threads.length:=by rw[b4];exact Nat.le_trans (by omega) g2
 obtain⟨t1,t2,t3⟩:=putTh_al P.threads bs g1.b hlen;obtain⟨⟨v1,v2,v3,v4⟩,⟨n1,n2,n3,n4,n5⟩,-⟩:=g1;have hn:∀x∈putTh P.threads bs,St.sms x.body/\(alL x.body).length<=512/\∃a m,Nums a m (alL x.body):=fun x hx=>by
  rcases t3 x hx with e|⟨b,hb,e⟩
  .rw[e];exact⟨by unfold St.sms;trivial,by simp[alL],0,0,Nums.nil _⟩
  .rw[e];exact b3 b hb
 refine⟨⟨by show P.vars.length<=_;omega,by show P.arrays.length<=_;omega,by show P.chans.length<=_;omega,by show (putTh P.threads bs).length<=_;omega,⟨by show P.nv.length<=_;omega,by show P.na.length<=_;omega,by show P.nm.length<=_;omega,by show P.nc.length<=_;omega,by show P.nh.length<=_;omega⟩,fun x hx=>?_⟩,?_,b2,fun x hx=> (hn x hx).2.2⟩
 .obtain⟨h1,h2,-⟩:=hn x hx;have h3:=len_alL x.body;exact⟨szs_of _ h1 (by omega),by rw[cns_len];omega,by omega⟩
 .rw[allS_eq];show Nums 0 n (alT (putTh P.threads bs));rw[t1];exact b1
end Go.Proofs.YtgppcdfgdaggjaaGreatDoor
