/- Texts laid together. No condition but what each law says. -/
import Derived.Test.YtgppcdfgdaggjaaGreatDoorN21
set_option maxRecDepth 100000
set_option maxHeartbeats 8000000
namespace Go.Proofs.YtgppcdfgdaggjaaGreatDoor
open Go.RowKit Go.Maps Go.Proofs.Tryz
open Go renaming Value→Fr,World→Fk,undef→Gm,Calls→Jq,wpList_load_mid→Gn,TypeId→GA,bodyPost→Gb
open Nat renaming le_trans→FU,le_of_eq→GB,le_refl→FL,lt_of_lt_of_le→FJ,zero_le→FX,zero_add→GE,reduceAdd→Ij,reduceSub→Ik
open Go.RowKit renaming Below→FM
open Go.Act renaming put→Gf
open And renaming intro→EQ
open Go.RowKit.Below renaming refl→FB
open Go.Instr renaming mapUpdate→HJ,findNow→Hc
open Go.IntWalk renaming wrap64_in→Gi
open List renaming drop_eq_getElem_cons→FZ,drop_length→Hn,getD_eq_getElem?_getD→FD,getElem?_eq_getElem→FC,getElem_mem→Gy,mem_cons→FQ,not_mem_nil→FO,mem_singleton→Hq,getElem?_eq_some_iff→FW,getElem?_set_ne→Ge,getElem?_set_self→Hj,drop_zero→GD,append_toArray→HI,cons_append→GM,length_cons→FV,length_nil→Gg,nil_append→Hw,push_toArray→HO,size_toArray→Hh,getElem?_cons_succ→FH,getElem?_cons_zero→FE,getElem?_eq_none→GV,mem_append→GG,all_eq_true→GC,replicate→Ie
open Go.Value renaming int→Gr,ownBlock→GF,slice→Gd,oneCell'→GZ
open Go.Code renaming wp→FR
open Or renaming inl→GJ
open Go.MapKept renaming IsKey→GQ
open Go.World renaming alloc_heap_new→Df
open _root_.Array renaming replicate_succ→Hz,replicate_zero→HA,getElem?_eq_some_iff→FT
variable {A:Act}{u0 u1 u2 u3 u4 u5 u6 u7 u8 u9 v v0 v1 v2 v3 v4 v5 v6 v7 v8 v9 vA vB vC vD vE vF vG vH vI vJ vK vL vM vN vP vQ vR vS vT vU vV vW vX vY vZ x0 x1 x2 x3 x4 x5 x6 x7 x8 x9 y0 y1 y2 y3 y4 y5 y6 y7 y8 y9:Fr}{b c g i j n n0 n5 n6 n7:Nat}{V W w w0 w1 w2:Fk}{l2:List Fr}{F0:PF}{a:Option Addr}{p p0 q r:Int}{G:Pg}{N:List Nm}
section
variable {w0 w W:Fk} {F g h:Nat} {fc:List Fr} {D D2:PF} {mv:Fr} {ns:List ByteArray}
theorem qj(j:Bb w0 w F g h fc D2 mv W)(C:aL fl (w.1.size+2) W mv ns)(A:qT D D2 ns)(J:D2.loc<=32)(u:FrameMode):CallsD prog 116 #[Pt (w.1.size+1),Pt w.1.size] u W fun e G w'=>G=u/\(e= .returned (.tuple #[])/\Kp W w' F g/\Fi w' F g h fc {D with n:=D2.n,mo:=D2.mo}):=by obtain⟨U,S,rfl,-⟩:=C.form;have V:=j.lt;apply (uW u j.f j.z j.m ((Ro.of C).CQ fun c N=>by have R:=N;omega) (by omega) ⟨by rw[A.2.2.1];omega,J⟩).mono;rintro e G w' ⟨rfl,rfl,H,E⟩;refine⟨z,z,H,?_⟩;obtain⟨-,M,K,Q⟩:=A;rw[M,K,Nat.add_sub_cancel]at E;rw[<-Q];exact E
theorem tq{er:fT}(j:Bb w0 w F g h fc D2 mv W)(J:aL fl (w.1.size+2) W mv ns)(G:qT D D2 ns)(H:D2.loc<=32)
  (hd:A.defers=[{target:= .fn (.func 116) #[Pt (w.1.size+1),Pt w.1.size],args:= #[]}]):
  bodyPostD prog f80 (BP w F g h fc D (.error er)) (.panic [dd er]) A W:=by
 show Leaves prog f80 A.tmps (BP w F g h fc D (.error er)) A.defers (.panicking [dd er]) W;rw[hd];apply leaves_cons (f:=116) (args:= #[Pt (w.1.size+1),Pt w.1.size]) (by simp) (by simp[go_sem]);apply (qj j J G H _).mono;rintro e M w' ⟨rfl,rfl,E,K⟩;have C:BP w F g h fc D (.error er) (.panicked [dd er]) w':=⟨j.k.trans E,z,D2.n,D2.mo,K⟩;simp[Leaves,settle,go_sem,dd]at C ⊢;exact C
theorem sx{acc:List St}(C:Bb w0 w F g h fc D2 mv W)(N:aL fl (w.1.size+2) W mv ns)(M:qT D D2 ns)(J:D2.loc<=32)(G:aL fn (w.1.size+2) W v0 acc)(U:A.tmps.getD 4 Gm=v0)
  (hd:A.defers=[{target:= .fn (.func 116) #[Pt (w.1.size+1),Pt w.1.size],args:= #[]}]):
  bodyPostD prog f80 (BP w F g h fc D (.ok (acc,D2.n,D2.mo))) .ret A W:=by
 show Leaves prog f80 A.tmps (BP w F g h fc D (.ok (acc,D2.n,D2.mo))) A.defers .returning W;rw[hd];apply leaves_cons (f:=116) (args:= #[Pt (w.1.size+1),Pt w.1.size]) (by simp) (by simp[go_sem]);apply (qj C N M J _).mono;rintro e u' w' ⟨rfl,rfl,H,X⟩;obtain⟨j,E,rfl,V⟩:=G.form;have Z:=C.lt;have K:=(G.kp H (by omega) (by omega)).Dp;have Q:A.tmps[4]?.getD Gm= .slice j acc.length E:=by rw[<-U];simp
 have R:BP w F g h fc D (.ok (acc,D2.n,D2.mo)) (.returned (.slice j acc.length E)) w':=⟨C.k.trans H,X,j,E,z,V,K.CQ fun c S=>by have Y:=S;show w.1.size<=c;omega⟩;simp[Leaves,settle,results,f80,go_sem,Q];exact R
end
structure Ol (wr W6:Fk) (B bA:Nat) (mv:Fr) (W:Fk):Prop where
 o1:∀c,c<wr.1.size->B<=c->mv.ownBlock≠some c->W.1[c]? =wr.1[c]?
 o2:∀c,bA<c->c<W6.1.size->W.1[c]? =W6.1[c]?
 o3:W6.1.size<=W.1.size
 o4:wr.1.size<=bA/\bA<W6.1.size/\B<=wr.1.size
section
variable {wr W6 W W':Fk} {B bA:Nat} {mv:Fr}
theorem Ol.step(h:Ol wr W6 B bA mv W)(A:∀c,c<W.1.size->B<=c->c≠bA->mv.ownBlock≠some c∨bA<c->W'.1[c]? =W.1[c]?)(D:W.1.size<=W'.1.size):Ol wr W6 B bA mv W':=by
 let ⟨K,G,E,J,C,H⟩:=h
 exact⟨fun c g w j=> (A c (by omega) w (by omega) (.inl j)).trans (K c g w j),fun c g F=> (A c (by omega) (by omega) (by omega) (.inr g)).trans (G c g F),FU E D,J,C,H⟩
theorem Ol.ch(h:Ol wr W6 B bA mv W)(j:Ch b W W')(g:b<B∨b=bA):Ol wr W6 B bA mv W':=h.step (fun c _ A w _=>by obtain⟨o,vs,rfl⟩:=j;exact au (by rcases g with g|g<;>omega) _ _ _) (GB j.size.symm)
theorem Ol.ED(h:Ol wr W6 B bA mv W)(g:iz b W W')(j:b<B):Ol wr W6 B bA mv W':=h.step (fun c _ w _ _=>g.block c (by omega)) (GB g.size.symm)
theorem Ol.below(h:Ol wr W6 B bA mv W)(g:bL W W'):Ol wr W6 B bA mv W':=h.step (fun c j _ _ _=>g.block c j) g.size
theorem Ol.acc(h:Ol wr W6 B bA mv W){l:List St}{mv':Fr}(E:aL (vx fn fun c=>mv.ownBlock=some c) B wr v0 l)(D:∀c,mv.ownBlock=some c->v0.ownBlock≠some c)(A:∀c,mv'.ownBlock=some c->mv.ownBlock=some c∨wr.1.size<=c):aL (vx fn fun c=>mv'.ownBlock=some c) B W v0 l:=E.EX (fun c j C g=>h.o1 c j C g) (by have:=h.o3;have:=h.o4;omega) (fun c j g=>D c g j) (fun c j g=>by
 rcases A c g with w|w
 .exact w
 .omega)
theorem Ol.st(h:Ol wr W6 B bA mv W){cs:List Fr}{s:St}(w:bX (fun c=>bA<c/\c<W6.1.size) W6 cs s):bX (fun c=>bA<c/\c<W6.1.size) W cs s:=w.keep fun b o u g j=>by rw[<-j];simp[World.cell?,h.o2 b g.1 g.2]
end
theorem su{wr:Fk}{B:Nat}{cs:List Fr}{s:St}(h:Ol wr w B j v1 W)(A:bX (fun c=>j<c/\c<w.1.size) w cs s)(D:B<=j)(C:∀c,v0.ownBlock=some c->c<j){mv':Fr}(g:∀c,mv'.ownBlock=some c->c<j∨w.1.size<=c):(vx fn fun c=>mv'.ownBlock=some c).L (fun c=>B<=c/\v0.ownBlock≠some c) W cs s:=(h.st A).CQ fun c E=>⟨⟨by omega,fun e=>by have:=C c e;omega⟩,fun e=>by have:=g c e;omega⟩
theorem vv{wr:Fk}{B:Nat}(C:v0.ownBlock=some j∨j=W.1.size)(h:Ol wr w B g v0 W)(_:∀c,v0.ownBlock=some c->c<g):v0.ownBlock=some j∨w.1.size<=j:=by
 rcases C with A|A
 .exact .inl A
 .exact .inr (by rw[A];exact h.o3)
theorem Ch.Fe{F:Nat}{w':Fk}(h:Ch F w w'):Kp w w' F g:=⟨h.kp.os,h.kp.tape,h.kp.output,h.kp.size,fun c A j _=>h.kp.block c A j j⟩
theorem Bb.EL{F h:Nat}{fc:List Fr}{D D':PF}(H:Bb w0 w F g h fc D v0 W)(C:ak V F 101 ((fc++eD g h D).set (13+j) v))(A:Ch F W V)(G:D'.L=D.L)(E:(eD g h D).set j v=eD g h D'):Bb w0 w F g h fc D' v0 V:=H.call A.Fe (H.f.setC C A G E)
theorem mB:(prog.info? 9).map (fun i=> (i.zero.map (fun z=>z.cells.size),i.size,decide (i.bytes<=1024)))=some (some 1,1,true):=by kernel_rfl
theorem zA:∃i z,prog.info? 26=some i/\i.zero=some z/\z.cells=([.slice none 0 0]:List Fr).toArray:=fH (by kernel_rfl)
theorem iL:(prog.info? 26).map (·.size)=some 1:=by kernel_rfl
theorem uo(g:Fn)(first cap:Array Fr)(w:Fk):(Instr.makeFunc g first cap).run prog w= .ok (.func g first cap) w:=rfl
def yG(w0:Fk)(F g h:Nat)(fc:List Fr)(s:St):Prop:=∀ (D:PF) (sc:List Fr) (w:Fk),Fi w F g h fc D->xu D->FM w0.1.size w0 w->bX (fun _=>True) w0 sc s->Jq prog 117 #[.pointer (some ⟨F,0,none⟩),.agg sc.toArray] w (AV w F g h fc D (ly D.L D.loc D.n D.mo s))
theorem iP{F h:Nat}{fc:List Fr}(m8:w0.1.size<=F/\w0.1.size<=g)(l:List St)(q7:∀s∈l,yG w0 F g h fc s):nD w0 F g h fc l:=by
 intro D a cap w m0 v4 hw HF hI;have w2:=uo;obtain⟨u7,g7,g8⟩:=hj;obtain⟨i6,z6,v1,v5,t4⟩:=ki;obtain⟨i2,z2,t8,t7,u2⟩:=zA;obtain⟨i0,z0,a8,b5,a7,b7,f8⟩:=bJ mS;obtain⟨i9,z9,e4,d8,f4,e1,i3⟩:=bJ mB;have e5:=O (EQ a8 (EQ b5 (EQ a7 (EQ b7 f8))));have f1:=O (EQ e4 (EQ d8 (EQ f4 (EQ e1 i3))));have g1:Hid (prog.underlying 44=some (.slice 60)):=O (by kernel_rfl);have p2:Hid (prog.underlying 26=some (.slice 9)):=O (by kernel_rfl);obtain⟨a2,HN⟩:∃a2,l.length=a2:=⟨_,z⟩;rw[HN]at m0 ⊢;have n5:=O fun _:True=>m0;have t6:=O q7;have HI:=O hI;have HW:=O (EQ hw m8);obtain⟨R,HR⟩:∃R,cb D.L D.loc D.n D.mo l=R:=⟨_,z⟩;rw[HR];go_enter_defers func80,ntmps80;refine wk fun KK h1=>?_;go_wp2_with (first
  | (with_reducible refine cp 2 (.box 96 _) ?_;refine aJ z (.tmp 0) z [Pt F] z w.1.size z ?_;intro W1 k1 b1 o0;have K1:=O k1;have B1:=O b1;clear k1 b1)
 )
 refine h1.o _ _ ?_;refine wk fun KK h1=>?_;go_wp2_with (first
  | (with_reducible refine cp 5 (.alloc 26) ?_;refine ag t8 t7 u2 z z (w.1.size+1) o0 ?_;intro W2 k2 b2 s2;have K2:=O k2;have B2:=O b2;clear k2 b2)
 )
 refine h1.o _ _ ?_;have h5:=B1.o.trans (B2.o.mono B1.o.size);have HB:Hid (Bb w0 w F g h fc D (.slice none 0 0) W2):=O ⟨Kp.below h5,HF.up h5,K1.o.below B2.o,K2.o,HW.o.1.trans (h5.mono HW.o.1.size),HF.EH,HW.o.2⟩;refine wk fun KK h1=>?_;go_wp2_with fail;refine h1.o _ _ ?_;clear h1 KK;refine wk fun KK h1=>?_;go_wp2_with fail;refine h1.o _ _ ?_;clear h1 KK;refine wk fun KK h1=>?_;go_wp2_with fail
 go_loopg [6,12] a2 (fun x ov iv wr=>∃ (i:Nat) (acc:List St) (ns:List ByteArray) (A:PF) (mv:Fr),i<=a2/\x=a2-i/\iv=I i/\Hid (acc.length=i/\i<=A.n)/\Hid (Bb w0 w F g h fc A mv wr)/\Hid (aL fl (w.1.size+2) wr mv ns)/\Hid (aL (vx fn fun c=>mv.ownBlock=some c) (w.1.size+2) wr ov acc/\∀c,mv.ownBlock=some c->ov.ownBlock≠some c)/\Hid (qT D A ns)/\Hid (xu A)/\Hid (R=gn (fun q=> (acc++q.1,q.2)) (cb A.L A.loc A.n A.mo (l.drop i))));case atStart=>exact⟨0,[],[],D,.slice none 0 0,FX _,z,z,O ⟨z,FX _⟩,HB,O (aL.nil _ _ _),O ⟨aL.nil _ _ _,fun c E=>by simp[GF]at E⟩,O (qT.refl D),HI,O (by rw[<-HR];cases h:cb D.L D.loc D.n D.mo l<;>simp[gn,h])⟩
 case round=>
  clear HB HI HR;obtain⟨i,acc,ns,A,mv,hi,rfl,rfl,d3,HB,d1,Y,e7,HI,j0⟩:=hrel;obtain⟨ga,g9,rfl,t2⟩:=Y.o.1.form;obtain⟨U,X,rfl,t3⟩:=d1.o.form;clear t2 t3;obtain⟨M,hM⟩:=eX (acc.length);rw[hM]at Y ⊢;obtain⟨Q,hQ⟩:=eX (ns.length);rw[hQ]at Y d1 HB;have w4:=O (EQ hM hQ);clear hM hQ;by_cases g4:i<a2
  .have l7:(i:Int)< (a2:Int):=by omega
   have w1:(0:Int)<=(i:Int):=by omega
   have o8:Hid (wrap64 ((i:Int)+1)=((i+1:Nat):Int)):=O (by have J:=(n5.o trivial).1;have h2:=(n5.o trivial).2;have:=Gi ((i:Int)+1) (by omega);rw[this];omega)
   obtain⟨b2,m3,sc,rfl,-,t1,i1⟩:=v4.at i (by rw[HN];exact g4);have m5:l.getD i default∈l:=by rw[FD,FC (by rw[HN];exact g4)];exact Gy _
   have r3:l.drop i=l.getD i default::l.drop (i+1):=by rw[FZ (by rw[HN];exact g4),FD,FC (by rw[HN];exact g4)];rfl
   have g6:=j0.o;rw[r3,hX]at g6;have i4:=fun W (hw:bL w0 W) (hf:Fi W F g h fc A)=>t6.o _ m5 A sc W hf HI.o hw i1;generalize l.getD i default=s at *;obtain⟨r,hr⟩:=eX (ly A.L A.loc A.n A.mo s);rw[hr]at g6;simp only[hr]at i4;have p8:=O i4;have k9:=O g6;have i5:=O hr;have n9:Hid (wr.rangeAt b2 (m3+i*25) sc):=O fun t v hv=>ai HB.o.b _ _ _ (by simpa using t1 t v hv);have g3:=O i1.cells;have u5:=i1.cells.1;obtain⟨H,j2⟩:=eX (wr.1.size);have a5:Hid (w.1.size+2<=H/\wr.1.size=H):=O ⟨by rw[<-j2];exact HB.o.sz,j2⟩;clear g6 i4 hr t1 i1 r3 m5 j0;go_wp2_with (first
    | (with_reducible refine l1 15 60 ?_;refine Gn z 60 (.tmp 14) z b2 (m3+i*25) z sc u7 n9.o g7 g8 (by rw[g3.o.1];exact ar) ?_)
    | (with_reducible refine cp 8 (.alloc 60) ?_;refine ag v1 v5 t4 z z H j2 ?_;intro W4 k4 b4 s4;have K4:=O k4;have B4:=O b4;clear k4 b4)
    | ((with_reducible refine cY (.store 60 (.tmp 8) (.tmp 15)) ?_);refine af ar z (.tmp 8) (.tmp 15) z H sc _ z z K4.o z g3.o ?_;intro W5 k5 c5;have K5:=O (EQ k5 c5);clear k5 c5;have c9:=O ((HB.o.below B4.o).ch a5.o.1 K5.o.2);have y0:=c9.o.z.ptr)
    | (with_reducible refine l1 17 60 ?_;refine ac g7 g8 ar z (.tmp 8) z H sc z (O K5.o.1) u5 ?_)
   )
   have h8:Hid (FM wr.1.size wr W5):=O (K5.o.2.below (by rw[a5.o.2];exact FL _) B4.o);refine(p8.o W5 c9.o.b c9.o.f).mono ?_;clear y0 s4;rintro e W6 ⟨i7,hm⟩;have e0:=O i7;have l7:=HB.o.lt;have V:=O l7;have f9:=O ((d1.o.below h8.o).kp i7 (by omega) (by omega));clear i7 l7;rcases r with er|⟨s',n2,a1⟩
   .obtain⟨rfl,n3,u3,hf⟩:=hm;have hq:R= .error er:=k9.o;rw[hq];exact tq (c9.o.call e0.o hf) f9.o (e7.o.cnt n3 u3) HI.o.1 z
   obtain⟨hf,cs,rfl,hs⟩:=hm;obtain⟨k,li,co,K,t,x,y,body,els,id,sl,ot,lo⟩:=s;obtain⟨x',y',b',e',h9,d7,d9,rfl,p7⟩:=sD i5.o;have h6:=O (EQ (pY _ _ _ _ _ _ _ _ i5.o) (xR _ _ _ _ _ _ _ _ i5.o HI.o.2));have d0:=O hs.cells;have f6:Hid (cs[0]? =some (I k)/\cs[3]? =some (.string K)/\cs[22]? =some (I h9)):=O (by unfold bX at hs;obtain⟨xc,yc,q1,q2,q3,q4,u8,hx,hy,-⟩:=hs;have J:=bR (C:=cs) u8 hx.cells.1 hy.cells.1;exact⟨J.1,J.2.2.2.1,J.2.2.2.2.2.2.2.2.1⟩)
   have g5:=O (c9.o.call e0.o hf);have g2:Hid (ak W6 H 60 sc):=O (K5.o.1.kp e0.o (by have:=V.o;have:=a5.o.1;omega) (by have:=V.o;have:=a5.o.1;omega));have o9:Hid (bX (fun c=>H<c/\c<W6.1.size) W6 cs (.mk k li co K t x' y' b' e' (A.n:Int) h9 d7 d9)):=O (hs.bound.CQ fun c E=>⟨by have J:W5.1.size<=c:=E.1;have:=K5.o.1.lt;omega,E.2⟩);have h7:Hid (Ol wr W6 (w.1.size+2) H (.slice U Q X) W6):=O ⟨fun c E hB _=> (e0.o.block c (FJ E h8.o.size) (by have:=V.o;omega) (by have:=V.o;omega)).trans (h8.o.block c E),fun _ _ _=>z,rl,by rw[a5.o.2];exact rl,FJ K5.o.1.lt e0.o.size,HB.o.sz⟩;have j8:=O p7;have c8:Hid (∀c,(Gd U Q X).ownBlock=some c->c<H):=O fun c E=>by have:=(d1.o.DC E).2;rw[a5.o.2]at this;exact this
   have m2:Hid (∀c,(Gd ga M g9).ownBlock=some c->c<H):=O fun c E=>by have:=(Y.o.1.DC E).2;rw[a5.o.2]at this;exact this
   have a6:Hid (w.1.size+2<=H):=O a5.o.1;clear hs hf p7 c9 d1 HB h8 K5 K4 B4 p8 n9;have a8:=e5.o.1;have b5:=e5.o.2.1;have a7:=e5.o.2.2.1;have b7:=e5.o.2.2.2.1;have f8:=e5.o.2.2.2.2;by_cases hk:k=1
   .subst hk;obtain⟨rfl,s6,u6⟩:=j8.o z;have n8:=O s6;have j7:Hid (A.loc<32):=O (by have:=HI.o.1;omega);have e4:=f1.o.1;have d8:=f1.o.2.1;have f4:=f1.o.2.2.1;have e1:=f1.o.2.2.2.1;have i3:=f1.o.2.2.2.2;have r2:prog.follows .mixedOrders=true:=by kernel_rfl
    clear s6 u6 j8;go_wp2_with (first
     | ((with_reducible refine cY (.store 60 (.tmp 8) (.tmp 18)) ?_);refine af ar z (.tmp 8) (.tmp 18) z H cs _ z z g2.o g3.o.1 d0.o ?_;intro W7 k7 c7;have b9:=O k7;have d4:=O (g5.o.ch a6.o c7);have f3:=O (h7.o.ch c7 (.inr z));have d5:=O (aL.flat hV f9.o fun c E=>c7.FB (by have:=c8.o c E;omega));have a0:=(b9.o.cell 0).trans f6.o.1;clear k7 c7 g5 h7 f9 g2)
    )
    obtain⟨S,Z⟩:=eX (W7.drew);have G:Hid (Bb w0 w F g h fc {A with n:=n2,mo:=a1} (.slice U Q X) S/\ak S H 60 cs):=O (by rw[<-Z];exact⟨d4.o.below (FB _ _).drew,b9.o.drew⟩);have e9:Hid (Ol wr W6 (w.1.size+2) H (.slice U Q X) S):=O (by rw[<-Z];exact f3.o.below (FB _ _).drew);have e3:Hid (aL fl (w.1.size+2) S (.slice U Q X) ns):=O (by rw[<-Z];exact d5.o.below (FB _ _).drew);clear d4 b9 f3 d5 a0;refine oT (P0:=fun _ _ _=>False) ?_ (fun _ _ _ _ hf=>hf.elim);refine al [9] (fun W=>Bb w0 w F g h fc {A with n:=n2,mo:=a1} (.slice U Q X) W/\ak W H 60 cs) r2 ?_;rw[Z];clear Z;refine fK _ 0 (fun W1 N=>N.1.z.ptr) ?_;refine nk 1 ?_;refine fK _ 3 (fun W1 N=>N.1.f.c13) ?_;refine nm ?_;refine fa 4 ?_
    refine fK _ 5 (fun W1 N=> (N.2.cell 3).trans f6.o.2.1) ?_;refine fa 6 ?_;refine fK _ 7 (fun W1 N=> (N.2.cell 22).trans f6.o.2.2) ?_;refine nm ?_;refine fa 8 ?_;refine nm ?_;refine oD 9 fun j6 hK=>?_;obtain⟨W9,p6,p0,d2⟩:=sz G.o.1.f.m ⟨K,0,A.loc⟩ n8.o;have v3:(HJ 97 (.map (some g)) (.string K) (.agg #[I 0,I A.loc])).run prog S= .ok () W9:=p6;have h0:=O (G.o.1.map d2 p0);have l4:=O (d2.CV (by have:=V.o;have:=a6.o;omega) G.o.2);have m4:=O (e9.o.ED d2 (by have:=V.o;omega));have p9:=O (e3.o.keep (fun c _ hB=>d2.block c (by have:=V.o;omega)) (GB d2.size.symm));clear p6 p0 d2;go_simp;refine hK _ _ (fun h=>by cases h) ?_;clear hK j6 v3 G e9 e3;try simp only[Gf]
    refine dn ?_;have y5:=h0.o.m.ptr;have y0:=h0.o.z.ptr;have a3:=(l4.o.cell 3).trans f6.o.2.1;have w3:(A.loc:Int)+1<=1000:=by have:=j7.o;omega
    go_wp2_with (first
     | ((with_reducible refine cp 34 (.buildSlice _ _ _) ?_);refine cy z (.tmp 33) z p2.o e4 d8 f4 e1 (by decide) (by decide) (.string K) [.string K] z z z ?_;intro Wc kc bc u0;have KC:=O kc;have j1:=O (h0.o.below bc);have i8:=O (l4.o.below bc);have k6:=O (m4.o.below bc);have n6:=O (p9.o.below bc);have v2:=O j1.o.sz;clear kc bc u0 h0 l4 m4 p9 y5 y0 a3)
     | (at_builtin;refine bW fl z (.tmp 31) (.tmp 34) 26 z i9 z9 p2.o e4 d8 f4 e1 (by decide) i3 (w.1.size+2) Wc (.slice U Q X) ns z n6.o [.string K] K z _ 9 KC.o z (by have:=e7.o.2.2.1;have:=j7.o;omega) v2.o ?_;intro gm s7 v6 q5 k8 k0 r7;have p3:=O q5;have m1:=O (j1.o.Dy k8);have l2:=O (EQ (i8.o.of (k0 H i8.o.lt (fun e=>by have:=c8.o _ e;omega))) k8.size);have n7:=O (k6.o.step (fun c J h2 h3 h4=>k0 c J (by rcases h4 with h4|h4;exact h4;exact fun e=>by have:=c8.o c e;omega)) l2.o.2);have t5:=O (vv r7 k6.o c8.o);clear q5 k8 k0 r7 j1 i8 k6 n6)
     | (with_reducible refine s1 26 5 ?_;refine az iL z (.tmp 5) (.tmp 35) z (w.1.size+1) 0 26 (.slice (some ⟨gm,0,none⟩) (ns.length+1) s7) _ z z z z m1.o.m (by simp) ?_;intro v8 p1 e6;have b6:=O (m1.o.Fj p1 e6);have o5:=O (e6.CV (by have:=a6.o;omega) l2.o.1);have o7:=O (n7.o.ch e6 (.inl (by omega)));have q0:=O (e6.grow p3.o (by omega));have y0:=b6.o.z.ptr;have c17:=b6.o.f.c17;have v0:=b6.o.f.f.frozen 17;clear p1 e6 m1 l2 n7 p3)
     | (with_reducible refine s1 3 42 ?_;refine az dx z (.tmp 42) (.tmp 40) z F 17 101 (I ((A.loc:Int)+1)) _ z z z z b6.o.f.f (by simp[eD,b6.o.f.lp]) ?_;intro u4 p5 c13;have l9:=O (b6.o.EL (j:=4) (D':={A with L:=A.L++[Nm.mk K 0 A.loc],loc:=A.loc+1,n:=n2,mo:=a1}) p5 c13 z (by simp[eD]));have p4:=O (c13.CV (by have:=V.o;have:=a6.o;omega) o5.o);have q6:=O (o7.o.ch c13 (.inl (by have:=V.o;omega)));have j5:=O (c13.grow q0.o (by have:=V.o;omega));clear p5 c13 b6 o5 o7 q0 y0 c17 v0)
    )
    obtain⟨S,Z⟩:=eX (u4.drew);obtain⟨a4,j4⟩:=eX (Gd (some ⟨gm,0,none⟩) (ns.length+1) s7);have u9:Hid (a4.ownBlock=some gm):=O (by rw[<-j4];rfl);rw[j4]at l9 j5;clear j4;have G:Hid (Bb w0 w F g h fc {A with L:=A.L++[Nm.mk K 0 A.loc],loc:=A.loc+1,n:=n2,mo:=a1} a4 S):=O (by rw[<-Z];exact l9.o.below (FB _ _).drew);have r6:=O (show ak S H 60 cs by rw[<-Z];exact p4.o.drew);have e9:Hid (Ol wr W6 (w.1.size+2) H (.slice U Q X) S):=O (by rw[<-Z];exact q6.o.below (FB _ _).drew);have e3:Hid (aL fl (w.1.size+2) S a4 (ns++[K])):=O (by rw[<-Z];exact j5.o.below (FB _ _).drew);clear l9 p4 q6 j5;refine oT (P0:=fun _ _ _=>False) ?_ (fun _ _ _ _ hf=>hf.elim)
    refine al [12] (fun W=>Bb w0 w F g h fc {A with L:=A.L++[Nm.mk K 0 A.loc],loc:=A.loc+1,n:=n2,mo:=a1} a4 W) r2 ?_;rw[Z];clear Z;refine fK _ 0 (fun W1 N=>N.z.ptr) ?_;refine fK _ 1 (fun W1 N=>N.z.ptr) ?_;refine nk 2 ?_;refine nm ?_;refine fK _ 4 (fun W1 N=>N.f.c18) ?_;refine fK _ 5 (fun W1 N=>N.z.ptr) ?_;refine nk 6 ?_;refine nm ?_;refine fK _ 8 (fun W1 N=>N.f.c17) ?_;refine ke 9 ?_;refine nm ?_;refine oD 12 fun j6 hK=>?_;refine aA dx (.tmp 54) (.tmp 52) z F 18 101 (I ((max a1 (A.loc+1):Nat):Int)) _ z (by refine congrArg (Gr IntKind.i64) ?_;omega) z z G.o.f.f (by simp[eD,G.o.f.lp]) ?_;intro v7 o6 c14
    have q8:=O (G.o.EL (j:=5) (D':={A with L:=A.L++[Nm.mk K 0 A.loc],loc:=A.loc+1,n:=n2,mo:=max a1 (A.loc+1)}) o6 c14 z z);have q9:=O (c14.CV (by have:=V.o;have:=a6.o;omega) r6.o);have m7:=O (e9.o.ch c14 (.inl (by have:=V.o;omega)));have m9:=O (c14.grow e3.o (by have:=V.o;omega));refine hK _ _ (fun h=>by cases h) ?_;clear hK j6 o6 c14 G r6 e9 e3;try simp only[Gf]
    refine dn ?_;have l8:Hid (∀c,a4.ownBlock=some c->c<H/\(Gd U Q X).ownBlock=some c∨W6.1.size<=c):=O fun c E=>by
     rw[u9.o]at E;cases E;rcases t5.o with J|J
     .exact .inl ⟨c8.o _ J,J⟩
     .exact .inr J
    go_wp2_with (first
     | (with_reducible refine l1 56 60 ?_;refine ac g7 g8 ar z (.tmp 8) z H cs z q9 d0.o.1 ?_)
     | ((with_reducible refine cp 57 (.buildSlice _ _ _) ?_);refine cy z (.tmp 56) z g1.o a8 b5 a7 b7 (by decide) (by decide) (.agg cs.toArray) cs z z d0.o.1 ?_;intro Wb kb bb sb;have KB:=O kb;have f0:=O (q8.o.below bb);have a9:=O (m7.o.below bb);have b8:=O (m9.o.below bb);have l3:=O (a9.o.acc (mv':=a4) Y.o.1 Y.o.2 (fun c E=> (l8.o c E).imp (·.2) (fun h=>by have:=a9.o.o4;omega)));have j9:=O (su (mv':=a4) a9.o o9.o a6.o m2.o (fun c E=> (l8.o c E).imp (·.1) (fun h=>h)));have l5:=O f0.o.sz;clear kb bb sb q8 m7 m9 q9)
     | (at_builtin;refine bW (vx fn fun c=>a4.ownBlock=some c) z (.tmp 55) (.tmp 57) 44 z i0 z0 g1.o a8 b5 a7 b7 (show 0<25 by decide) f8 (w.1.size+2) Wb (.slice ga M g9) acc z l3.o cs (.mk 1 li co K t x' y' b' e' (A.n:Int) (A.loc:Int) d7 d9) j9.o _ 60 KB.o z (by have:=d3.o;have:=HI.o.2;omega) l5.o ?_;intro gb t9 u1 f7 f2 f5 d6;have l6:=O f7;have j3:=O f2;have e8:=O (EQ f5 d6);clear f7 f2 f5 d6)
    )
    have n0:Hid (∀c,a4.ownBlock=some c->(Gd ga M g9).ownBlock≠some c):=O fun c E e=>by
     rcases l8.o c E with J|J
     .exact Y.o.2 c J.2 e
     .have:=m2.o c e;have:=a9.o.o4;omega
    go_roundg (a2- (i+1));case measure=>omega
    case rel=>
     refine⟨i+1,acc++[.mk 1 li co K t x' y' b' e' (A.n:Int) (A.loc:Int) d7 d9],ns++[K],{A with L:=A.L++[Nm.mk K 0 A.loc],loc:=A.loc+1,n:=n2,mo:=max a1 (A.loc+1)},a4,by omega,z,congrArg (Gr .i64) o8.o,O ⟨by have:=d3.o;simp;omega,by have:=d3.o;have:=h6.o;show i+1<=n2;omega⟩,O (f0.o.Dy j3.o),O (aL.flat hV b8.o fun c E=>e8.o.1 c (b8.o.DC E).2 (n0.o c E)),O ⟨l6.o,fun c E e=>?_⟩,O (e7.o.snoc n8.o n2 (max a1 (A.loc+1))),O ⟨j7.o,h6.o.2⟩,O ?_⟩
     .have e2:gb=c:=by simpa [GF]using e
      subst e2;rcases e8.o.2 with J|J
      .exact n0.o _ E J
      .have:=(b8.o.DC E).2;omega
     .rw[k9.o];simp only[ha,dJ,if_true];congr 1;funext q;simp
   .clear j8;go_wp2_with (first
     | ((with_reducible refine cY (.store 60 (.tmp 8) (.tmp 18)) ?_);refine af ar z (.tmp 8) (.tmp 18) z H cs _ z z g2.o g3.o.1 d0.o ?_;intro W7 k7 c7;have b9:=O k7;have d4:=O (g5.o.ch a6.o c7);have f3:=O (h7.o.ch c7 (.inr z));have d5:=O (aL.flat hV f9.o fun c E=>c7.FB (by have:=c8.o c E;omega));have a0:=(b9.o.cell 0).trans f6.o.1;clear k7 c7 g5 h7 f9 g2)
     | (with_reducible refine l1 56 60 ?_;refine ac g7 g8 ar z (.tmp 8) z H cs z b9 d0.o.1 ?_)
     | ((with_reducible refine cp 57 (.buildSlice _ _ _) ?_);refine cy z (.tmp 56) z g1.o a8 b5 a7 b7 (by decide) (by decide) (.agg cs.toArray) cs z z d0.o.1 ?_;intro Wb kb bb sb;have KB:=O kb;have f0:=O (d4.o.below bb);have a9:=O (f3.o.below bb);have b8:=O (d5.o.below bb);have l3:=O (a9.o.acc (mv':= .slice U Q X) Y.o.1 Y.o.2 (fun c E=> .inl E));have j9:=O (su (mv':= .slice U Q X) a9.o o9.o a6.o m2.o (fun c E=> .inl (c8.o c E)));have l5:=O f0.o.sz;clear kb bb sb d4 f3 d5 b9)
     | (at_builtin;refine bW (vx fn fun c=> (Gd U Q X).ownBlock=some c) z (.tmp 55) (.tmp 57) 44 z i0 z0 g1.o a8 b5 a7 b7 (show 0<25 by decide) f8 (w.1.size+2) Wb (.slice ga M g9) acc z l3.o cs (.mk k li co K t x' y' b' e' (A.n:Int) h9 d7 d9) j9.o _ 60 KB.o z (by have:=d3.o;have:=HI.o.2;omega) l5.o ?_;intro gb t9 u1 f7 f2 f5 d6;have l6:=O f7;have j3:=O f2;have e8:=O (EQ f5 d6);clear f7 f2 f5 d6)
    )
    go_roundg (a2- (i+1));case measure=>omega
    case rel=>
     refine⟨i+1,acc++[.mk k li co K t x' y' b' e' (A.n:Int) h9 d7 d9],ns,{A with n:=n2,mo:=a1},.slice U Q X,by omega,z,congrArg (Gr .i64) o8.o,O ⟨by have:=d3.o;simp;omega,by have:=d3.o;have:=h6.o;show i+1<=n2;omega⟩,O (f0.o.Dy j3.o),O (aL.flat hV b8.o fun c E=>e8.o.1 c (b8.o.DC E).2 (Y.o.2 c E)),O ⟨l6.o,fun c E e=>?_⟩,O (e7.o.cnt n2 a1),O ⟨HI.o.1,h6.o.2⟩,O ?_⟩
     .have e2:gb=c:=by simpa [GF]using e
      subst e2;rcases e8.o.2 with J|J
      .exact Y.o.2 _ E J
      .have:=(b8.o.DC E).2;omega
     .rw[k9.o];simp only[ha,dJ,am hk];congr 1;funext q;simp
  .obtain rfl:i=a2:=by omega
   have v9:¬ (i:Int)< (i:Int):=by omega
   have hQ:=j0.o;rw[<-HN,Hn,cb]at hQ;have hq:R= .ok (acc,A.n,A.mo):=by rw[hQ];simp[gn]
   go_wp2_with fail;refine h1.o _ _ ?_;go_wp2_with fail;rw[hq];exact sx HB.o d1.o e7.o HI.o.1 Y.o.1.Fg z z
mutual
theorem uM {w0:Fk} {F g h:Nat} {fc:List Fr} (hFg:w0.1.size<=F/\w0.1.size<=g):∀ (s:St),s.sm->yG w0 F g h fc s
 | .mk k l c s t x y body els id sl ot lo,hs=>by
  unfold St.sm at hs
  exact fun D sc w hF hI hw hS=>rX k l c s t x y body els id sl ot lo hs.1 hs.2.1 (iP hFg body (hU hFg body hs.2.2.1)) (iP hFg els (hU hFg els hs.2.2.2)) D sc w hF hI hw hFg hS
theorem hU {w0:Fk} {F g h:Nat} {fc:List Fr} (hFg:w0.1.size<=F/\w0.1.size<=g):∀ (l:List St),St.DO l->∀s∈l,yG w0 F g h fc s
 | [],_,s,hs=>by cases hs
 |y::r,h,s,hs=>by
  unfold St.DO at h
  by_cases e:s=y
  .rw[e]
   exact uM hFg y h.1
  .exact hU hFg r h.2 s ((FQ.1 hs).resolve_left e)
end
theorem sf{F h:Nat}{fc:List Fr}(j:w0.1.size<=F/\w0.1.size<=g)(l:List St)(w:St.DO l):nD w0 F g h fc l:=iP j l (hU j l w)
theorem mV{ty t:GA}(h:(prog.info? ty).map (fun i=> (i.zero.map (fun z=>z.cells.size),i.size,decide (i.bytes<=1024)))=some (some n,n,true))(E:prog.underlying t=some (.slice ty))(C:0<n)(j:n<=1000):yV (jX ty n) t:=by
 let ⟨i,z,D,A,F,g,w⟩:=bJ h
 exact⟨i,z,E,D,A,F,g,C,j,w⟩
theorem AF:yV (jX 2 1) 23:=mV (by kernel_rfl) (by kernel_rfl) (by decide) (by decide)
theorem xJ:yV (jX 3 1) 24:=mV (by kernel_rfl) (by kernel_rfl) (by decide) (by decide)
theorem zV:yV (jX 71 3) 25:=mV (by kernel_rfl) (by kernel_rfl) (by decide) (by decide)
theorem tZ:yV (jX 9 1) 26:=mV (by kernel_rfl) (by kernel_rfl) (by decide) (by decide)
theorem yN:(prog.info? 23).map (·.size)=some 1:=by kernel_rfl
theorem tJ:(prog.info? 24).map (·.size)=some 1:=by kernel_rfl
theorem yv:(prog.info? 25).map (·.size)=some 1:=by kernel_rfl
theorem Fi.pc{w':Fk}{F h:Nat}{pc:List Fr}{D:PF}(H:Fi w F g h pc D)(j:l2.length=13)(A:ak w' F 101 (l2++eD g h D))(E:w'.1[g]? =w.1[g]?)(C:w'.1[h]? =w.1[h]?):Fi w' F g h l2 D:=⟨j,A,H.m.of E,C.trans H.wm,H.fg,H.fh,H.gh⟩
structure mN (B F g:Nat) (w w':Fk):Prop where
 os:w'.os=w.os
 tape:w'.tape=w.tape
 output:w'.output=w.output
 size:w.1.size<=w'.1.size
 block:∀c,c<B->c≠F->c≠g->w'.1[c]? =w.1[c]?
section
variable {B F g b:Nat} {w w1 w2:Fk}
theorem mN.below(h:mN B F g w w1)(j:FM B w1 w2):mN B F g w w2:=⟨j.os.trans h.os,j.tape.trans h.tape,j.output.trans h.output,FU h.size j.size,fun c A D C=> (j.block c A).trans (h.block c A D C)⟩
theorem mN.ch(h:mN B F g w w1)(j:Ch F w1 w2):mN B F g w w2:=⟨j.kp.os.trans h.os,j.kp.tape.trans h.tape,j.kp.output.trans h.output,FU h.size j.kp.size,fun c D A C=> (j.FB A).trans (h.block c D A C)⟩
theorem mN.ED(h:mN B F g w w1)(j:iz g w1 w2):mN B F g w w2:=⟨j.os.trans h.os,j.tape.trans h.tape,j.output.trans h.output,by rw[j.size];exact h.size,fun c C D A=> (j.block c A).trans (h.block c C D A)⟩
theorem mN.refl(B F g:Nat)(w:Fk):mN B F g w w:=⟨z,z,z,rl,fun _ _ _ _=>z⟩
end
def dg(d:De)(bv:Fr):List Fr:=[.int .i64 d.kind,.int .i64 d.line,.int .i64 d.Dm,.string d.name,.int .i64 d.num,bv]
def xA(B F g h:Nat)(D:PF)(w:Fk)(R:Except fT (Pg×List Nm×Int))(e:Ending)(w':Fk):Prop:=mN B F g w w'/\match R with
 | .error f=>e= .panicked [dd f]
 | .ok (P',L',ce')=>e= .returned (.tuple #[])/\∃vs',Fi w' F g h (fb P' vs') {D with L:=L',ce:=ce'}/\Gs B w' vs' (eW P')
structure gg (B F g h:Nat) (w:Fk) (b:Nat) (d:De) (bv:Fr) (P:Pg) (vs:List Fr) (D:PF) (W:Fk):Prop where
 k:mN B F g w W
 f:Fi W F g h (fb P vs) D
 s:Gs B W vs (eW P)
 d:ak W b 46 (dg d bv)
 lt:F<B/\g<B/\h<B/\B<=b/\b<W.1.size
section
variable {B F g h b c:Nat} {w W W':Fk} {d:De} {bv:Fr} {P:Pg} {vs:List Fr} {D D':PF}
theorem gg.below(H:gg B F g h w b d bv P vs D W)(j:bL W W'):gg B F g h w b d bv P vs D W':=⟨H.k.below (j.mono (by have:=H.lt;omega)),H.f.up j,H.s.below j,H.d.below j,⟨H.lt.1,H.lt.2.1,H.lt.2.2.1,H.lt.2.2.2.1,FJ H.lt.2.2.2.2 j.size⟩⟩
theorem gg.ch(H:gg B F g h w b d bv P vs D W)(j:Ch c W W')(E:B<=c)(A:c≠b)(C:∀k,(vs.getD k bV).ownBlock≠some c):gg B F g h w b d bv P vs D W':=⟨H.k.below (j.below E (FB _ _)),H.f.ch j (by have:=H.lt;omega) (by have:=H.lt;omega) (by have:=H.lt;omega),H.s.ch j (.inr C),j.CV (fun e=>A e.symm) H.d,by rw[j.size];exact H.lt⟩
theorem gg.Dc(H:gg B F g h w b d bv P vs D W)(G:ak W' F 101 ((fb P vs++eD g h D).set (13+j) v))(A:Ch F W W')(E:D'.L=D.L)(C:(eD g h D).set j v=eD g h D'):gg B F g h w b d bv P vs D' W':=⟨H.k.ch A,H.f.setC G A E C,H.s.ch A (.inl H.lt.1),A.CV (by have:=H.lt;omega) H.d,by rw[A.size];exact H.lt⟩
end
theorem fQ{B F h:Nat}{d:De}{bv:Fr}{P:Pg}{vs:List Fr}{D:PF}{sl:Nat}(K:Hid (gg B F g h w j d bv P vs D W))(HX:Hid (ak W n0 104 [I d.kind,I sl]))(hn:ex D.L d.name=none)(hk:0<=d.kind)(hi:i<=1000){R:Except fT (Pg×List Nm×Int)}(E:D.n=F0.n/\D.loc=F0.loc/\D.mo=F0.mo)
  (Q:Hid (R=if 64<=i then .error ((d.line,d.Dm),134) else .ok (P,D.L++[Nm.mk d.name d.kind.toNat sl],D.ce)))(hU:l2.length=237:=by rfl):
  FR prog (Jp 5 (f37.body.getD .skip)) (Gb prog f37 (xA B F g h F0 w R)) ⟨(Pt F::I i::v0::v1::v2::Pt j::v3::v4::Pt F::Pt n0::l2).toArray,[]⟩ W:=by
 revert l2;apply aN;iterate 237 intro _
 change FR _ _ _ _ _;let ⟨d4,a6,b5⟩:=hQ
 have b4:prog.follows .mixedOrders=true:=by kernel_rfl
 have HN:=O hn;have HD:=O E;have a7:=O hk;clear hn E hk;have q1:W.cell? (ad j 1)=some (I d.line):=K.d.cell 1;have q2:W.cell? (ad j 2)=some (I d.Dm):=K.d.cell 2;have a4:=eT (i:Int) 0 63 (d.line,d.Dm) W;conv in (Jp _ _)=>whnf
 refine wk fun KK a1=>?_;go_wp2_with fail;apply a4.mono;clear a4 q1 q2;rintro e W2 ⟨V,M⟩;have S:=O (K.below V);have a5:=O (HX.below V);clear K HX V;by_cases a0:64<=i
 .rw[aD (by omega)]at M;have C:=Q.o;rw[aD a0]at C;rw[C,M];exact⟨z,S.k,z⟩
 rw[am (by omega)]at M;subst M;have C:=Q.o;rw[am a0]at C;have a8:=O C;clear Q C;go_wp2;apply a1;clear a1 KK;let ⟨N,Z⟩:=eX (W2.drew)
 have A:Hid (gg B F g h w j d bv P vs D N/\ak N n0 104 [I d.kind,I sl]):=O (by rw[<-Z];exact⟨S.below (FB _ _).drew,a5.drew⟩);clear S a5;go_wp2;apply al [7] (fun W=>gg B F g h w j d bv P vs D W/\ak W n0 104 [I d.kind,I sl]) b4;rw[Z];clear Z;apply ke 0;apply fK _ 3 (fun Y U=>U.1.f.c13);refine nm ?_;apply fa 4;refine fK (fun Y=>Y.cell? ⟨j,3,none⟩=some (.string d.name)) 5 (fun Y U=>U.1.d.cell 3) ?_;refine tl 6 246 A 104 9 n0 0 [I d.kind,I sl] d4 (fun W hS=>hS.2.whole) a6 b5 bY ?_;refine nm ?_;refine oD 7 fun a9 hK=>?_;let ⟨G,a3,a2,J⟩:=sz A.1.f.m ⟨d.name,d.kind.toNat,sl⟩ HN
 have b6:(HJ 97 (.map (some g)) (.string d.name) (.agg #[I d.kind,I sl])).run prog N= .ok () G:=by have H:=a3;simp only[Nm.ev,Int.toNat_of_nonneg a7.o]at H;exact H
 have X:Hid (mN B F g w G/\Fi G F g h (fb P vs) {D with L:=D.L++[Nm.mk d.name d.kind.toNat sl]}/\Gs B G vs (eW P)):=O ⟨A.1.k.ED J,A.1.f.map J a2,A.1.s.ED J A.1.lt.2.1⟩;clear a3 a2 J;go_simp;apply hK _ _ nofun;clear hK a9 b6 A;try simp only[Gf]
 refine dn ?_;go_wp2;go_end0;rw[a8.o];have E:=HD.o;refine⟨X.1,z,vs,?_,X.2.2⟩;have H:=X.2.1;rw[E.1,E.2.1,E.2.2]at H;exact H
section
variable {P:Pg} {L:List Nm} {ce:Int} {i:Nat} {d:De}
theorem nT{x:Nm}(h:ex L d.name=some x):gl P L ce i d= .error ((d.line,d.Dm),130):=by unfold gl;simp[h]
theorem sT(h:ex L d.name=none)(g:d.kind=1):gl P L ce i d=if 64<=i then .error ((d.line,d.Dm),134) else .ok ({P with vars:=P.vars++[d.num],nv:=P.nv++[d.name]},L++[Nm.mk d.name d.kind.toNat P.vars.length],ce):=by unfold gl;simp[h,g]
theorem mz(h:ex L d.name=none)(j:d.kind=2)(g:d.num<1∨256<d.num∨256<ce+d.num):gl P L ce i d= .error ((d.line,d.Dm),134):=by unfold gl;simp[h,j,g]
theorem tS(h:ex L d.name=none)(j:d.kind=2)(g:¬ (d.num<1∨256<d.num∨256<ce+d.num)):gl P L ce i d=if 64<=i then .error ((d.line,d.Dm),134) else .ok ({P with CW:=P.CW++[d.num],na:=P.na++[d.name]},L++[Nm.mk d.name d.kind.toNat P.CW.length],ce+d.num):=by unfold gl;simp only[h,j,g];rfl
theorem ux(h:ex L d.name=none)(g:d.kind=3):gl P L ce i d=if 64<=i then .error ((d.line,d.Dm),134) else .ok ({P with CT:=P.CT+1,nm:=P.nm++[d.name]},L++[Nm.mk d.name d.kind.toNat P.CT],ce):=by unfold gl;simp[h,g]
theorem ub(h:ex L d.name=none)(g:d.kind=4):gl P L ce i d=if 64<=i then .error ((d.line,d.Dm),134) else .ok ({P with conds:=P.conds+1,nc:=P.nc++[d.name]},L++[Nm.mk d.name d.kind.toNat P.conds],ce):=by unfold gl;simp[h,g]
theorem qu(h:ex L d.name=none)(j:d.kind=5)(g:d.num<1∨16<d.num):gl P L ce i d= .error ((d.line,d.Dm),134):=by unfold gl;simp[h,j,g]
theorem so(h:ex L d.name=none)(j:d.kind=5)(g:¬ (d.num<1∨16<d.num)):gl P L ce i d=if 64<=i then .error ((d.line,d.Dm),134) else .ok ({P with CX:=P.CX++[d.num],nh:=P.nh++[d.name]},L++[Nm.mk d.name d.kind.toNat P.CX.length],ce):=by unfold gl;simp only[h,j,g];rfl
theorem uz(h:ex L d.name=none)(g:d.kind=6):gl P L ce i d=if 64<=i then .error ((d.line,d.Dm),134) else .ok ({P with threads:=P.threads++[Th.mk d.name 0 []]},L++[Nm.mk d.name d.kind.toNat P.threads.length],ce):=by unfold gl;simp[h,g]
end
theorem Bd{w:Type}{l:List w}(h:l.length=9):∃a b c d e f g i j,l=[a,b,c,d,e,f,g,i,j]:=by rcases l with _|⟨a,_|⟨b,_|⟨c,_|⟨d,_|⟨e,_|⟨f,_|⟨g,_|⟨i,_|⟨j,_|⟨k,r⟩⟩⟩⟩⟩⟩⟩⟩⟩⟩;all_goals first|exact⟨_,_,_,_,_,_,_,_,_,z⟩|simp at h
theorem iu(d:De){bv:Fr}(h:bv.oneCell'=true):(dg d bv).length=6/\∀v∈dg d bv,v.oneCell'=true:=by refine⟨z,fun v g=>?_⟩;simp only[dg,FQ,FO,or_false]at g;rcases g with rfl|rfl|rfl|rfl|rfl|rfl;all_goals first|rfl|exact h
theorem zj(ty:GA)(x:Int)(ok:Nat->Prop)(W:Fk):(jX ty 1).L ok W (cI x) (cI x):=⟨z,z,fun v g=>by simp only[cI,Hq]at g;subst g;rfl⟩
theorem ui(ty:GA)(x:ByteArray)(ok:Nat->Prop)(W:Fk):(jX ty 1).L ok W (cS x) (cS x):=⟨z,z,fun v g=>by simp only[cS,Hq]at g;subst g;rfl⟩
def xN(P:Pg)(n:Nat):Prop:=(∀k,((eW P).getD k []).length<=n)/\P.CT<=n/\P.conds<=n
def mX(w:Fk)(B:Nat)(b c:Nat)(vs:List Fr):Prop:=∀k x,(vs.getD k bV).ownBlock=some x->B<=x/\x≠b/\x≠c/\x<w.1.size
theorem mX.up{w':Fk}{B:Nat}{vs:List Fr}(h:mX w B b c vs)(j:w.1.size<=w'.1.size):mX w' B b c vs:=fun k x g=>⟨(h k x g).1,(h k x g).2.1,(h k x g).2.2.1,FJ (h k x g).2.2.2 j⟩
theorem yB{B F h:Nat}{d:De}{bv:Fr}{P:Pg}{D:PF}(HQ:Hid (gg B F g h w j d bv P [v8,v1,v2,v3,v0,v4,v5,v6,v7] D W))(HX:Hid (ak W n0 104 [I d.kind,I 0]))(d1:Hid (mX W B j n0 [v8,v1,v2,v3,v0,v4,v5,v6,v7]))(b9:B<=n0/\n0≠j)(hn:ex D.L d.name=none)(hi:i<=1000)(d6:Hid (xN P 1000))(hk:d.kind=1)(f5: -2147483648<=d.num/\d.num<=2147483647)(hU:l2.length=237:=by rfl):FR prog (Jp 4 (f37.body.getD .skip)) (Gb prog f37 (xA B F g h D w (gl P D.L D.ce i d))) ⟨(Pt F::I i::v9::u0::u1::Pt j::u2::u3::Pt F::Pt n0::l2).toArray,[]⟩ W:=by
 revert l2;apply aN;iterate 237 intro _
 change FR _ _ _ _ _;have e7:prog.follows .mixedOrders=true:=by kernel_rfl
 have q0:W.cell? ⟨j,0,none⟩=some (I d.kind):=HQ.o.d.cell 0;rw[hk]at q0;have q1:W.cell? ⟨j,1,none⟩=some (I d.line):=HQ.o.d.cell 1;have q2:W.cell? ⟨j,2,none⟩=some (I d.Dm):=HQ.o.d.cell 2;have q4:W.cell? ⟨j,4,none⟩=some (I d.num):=HQ.o.d.cell 4;have HN:=O hn;have a3:=O b9;have f1:=O hi;have a9:=O hk;clear hn b9 hi;obtain⟨R,hR⟩:∃R,gl P D.L D.ce i d=R:=⟨_,z⟩;rw[hR];have HR:=O hR;clear hR;conv in (Jp _ _)=>whnf
 refine wk fun KK f2=>?_;have e4:=eT d.num (-2147483648) 2147483647 (d.line,d.Dm) W;go_wp2_with fail;refine e4.mono ?_;clear e4 q0 q1 q2 q4;rintro e W2 ⟨hb,he⟩;have a1:=O (HQ.o.below hb);have e5:=O (HX.o.below hb);have a7:=O (d1.o.up hb.size);clear HQ HX d1 hb;by_cases d8:d.num< (-2147483648)∨2147483647<d.num
 .rw[aD d8]at he;omega
 rw[am d8]at he;subst he;obtain⟨X,Y,f4,e8⟩:=(a1.o.s.gr 0 (by decide)).form;obtain rfl:v8= .slice X ((eW P).getD 0 []).length Y:=f4;obtain⟨K,b5⟩:∃n,((eW P).getD 0 []).length=n:=⟨_,z⟩;have e6:=O b5;rw[b5]at a1 a7;clear e8 b5;have f3:W2.cell? ⟨F,0,none⟩=some (.slice X K Y):=a1.o.f.f.cell 0;go_wp2_with (first
  | ((with_reducible refine cY (.store 3 (.tmp 45) _) ?_);refine az dx z (.tmp 45) (.tmp 44) z n0 1 104 (I K) _ z z z z e5.o (by simp) ?_;intro W3 k3 c3;have e2:=O (a1.o.ch c3 a3.o.1 a3.o.2 (fun k e=> (a7.o k _ e).2.2.1 z));have c8:Hid (ak W3 n0 104 [I d.kind,I K]):=O k3;have d4:=O (a7.o.up (GB c3.size.symm));clear k3 c3 a1 e5 a7 f3)
  |fail)
 obtain⟨V,hV⟩:∃V,W3.drew=V:=⟨_,z⟩;have G:Hid (gg B F g h w j d bv P [.slice X K Y,v1,v2,v3,v0,v4,v5,v6,v7] D V):=O (by rw[<-hV];exact e2.o.below (FB _ _).drew);have b4:Hid (ak V n0 104 [I d.kind,I K]):=O (by rw[<-hV];exact c8.o.drew);have d7:Hid (mX V B j n0 [.slice X K Y,v1,v2,v3,v0,v4,v5,v6,v7]):=O (by rw[<-hV];exact d4.o);clear e2 c8 d4;obtain⟨C,hC⟩:=eX (fb P [.slice X K Y,v1,v2,v3,v0,v4,v5,v6,v7]++eD g h D);have HC:=O hC;have A:Hid (ak V F 101 C/\ak V j 46 (dg d bv)):=O ⟨hC▸G.o.f.f,G.d⟩;clear hC;apply al [1,21,22,23,24,25] (fun W=>ak W F 101 C/\ak W j 46 (dg d bv)) e7;rw[hV];clear hV;refine ck 1 (some 47) (v:=?_) z z (by kernel_rfl) (fun _ _ _ h=>h) (GJ ⟨by rfl,?_⟩) ?_;rotate_left
 .intro H N;clear N;go_simp;first|with_reducible rfl|rw[am (by omega)]
 refine el 0 (some 46) A ?_;refine el 2 (some 48) A ?_;refine el 3 (some 49) A ?_;refine nm ?_;refine el 4 (some 50) A ?_;refine ld (fun H=>H.cell? ⟨F,0,none⟩=some (.slice X K Y)) 5 (some 51) A (fun H N=> (N.1.cell 0).trans (by rw[<-HC.o];rfl)) ?_;refine el 6 (some 52) A ?_;refine ld (fun H=>H.cell? ⟨j,4,none⟩=some (.int .i64 d.num)) 7 (some 53) A (fun H N=>N.2.cell 4) ?_;refine nm ?_;refine el 10 (some 56) A ?_;refine el 11 (some 57) A ?_;refine el 12 (some 58) A ?_;refine el 13 (some 59) A ?_;refine nm ?_;refine ld (fun H=>H.cell? ⟨F,8,none⟩=some v0) 14 (some 60) A (fun H N=> (N.1.cell 8).trans (by rw[<-HC.o];rfl)) ?_;refine el 15 (some 61) A ?_
 refine ld (fun H=>H.cell? ⟨j,3,none⟩=some (.string d.name)) 16 (some 62) A (fun H N=>N.2.cell 3) ?_;simp only[Gf,List.setIfInBounds_toArray,List.set_cons_zero,List.set_cons_succ];have b6:=G.lt;have c9:=G.s.ap;have J:=d7.o
 refine kn (E1:=jX 2 1) (E2:=jX 9 1) (B:=B) 8 9 17 18 54 55 63 64 23 26 51 53 60 62 ⟨z,z,z,z⟩ ⟨z,z,z,z⟩ ⟨z,z,z,z⟩ (by kernel_rfl) (by kernel_rfl) (by kernel_rfl) (by kernel_rfl) (by kernel_rfl) (by kernel_rfl) (by decide) ⟨z,z,z,z⟩ z (by decide) AF tZ (dw _ _) (dw _ _) z z (G.s.gr 0 (by decide)) (G.s.gr 4 (by decide)) (fun c U=>c9 0 4 c (by decide) U) (I d.num) (.string d.name) (cI d.num) (cS d.name) (cI d.num) (cS d.name) z z ⟨z,z⟩ (fun _ _=>zj _ _ _ _) (fun _ _=>ui _ _ _ _) ⟨FU (d6.1 0) (by decide),FU (d6.1 4) (by decide)⟩ (by omega) (fun W hk=>⟨A.1.of (hk F (by omega) (fun e=>by have:=(J 0 F e).1;omega) (fun e=>by have:=(J 4 F e).1;omega)),A.2.of (hk j b6.2.2.2.2 (fun e=> (J 0 _ e).2.1 z) (fun e=> (J 4 _ e).2.1 z))⟩) ?_
 intro f6 v9 g1 k1 g2 k2 W4 d0 d5 d3 a0 e3 b8 e1;have b7:=O (G.s.set2 (by decide:0<9) (by decide:4<9) (by decide) d0 d5 a0 (fun c U=>by cases U;exact e3) (fun c U=>by cases U;exact b8) (fun c U e=>by cases U;cases e;exact e1 z));have a8:∀c,c<B->W4.1[c]? =V.1[c]? :=fun c U=>a0 c (by omega) (fun e=>by have:=(J 0 c e).1;omega) (fun e=>by have:=(J 4 c e).1;omega);have Z:Hid (ak W4 F 101 C/\ak W4 j 46 (dg d bv)/\ak W4 n0 104 [I d.kind,I K]):=O ⟨A.1.of (a8 F (by omega)),A.2.of (a0 j b6.2.2.2.2 (fun e=> (J 0 _ e).2.1 z) (fun e=> (J 4 _ e).2.1 z)),b4.of (a0 n0 b4.lt (fun e=> (J 0 _ e).2.2.1 z) (fun e=> (J 4 _ e).2.2.1 z))⟩;have a6:=O (EQ d3 (EQ (a8 g (by omega)) (a8 h (by omega))))
 obtain⟨z1,a5⟩:=eX (Gd (some ⟨g1,0,none⟩) (((eW P).getD 0 []).length+1) k1);obtain⟨z2,a4⟩:=eX (Gd (some ⟨g2,0,none⟩) (((eW P).getD 4 []).length+1) k2);have HZ:Hid ((z1.cells= #[z1]/\z1.oneCell'=true)/\(z2.cells= #[z2]/\z2.oneCell'=true)):=O ⟨by rw[<-a5];exact⟨z,z⟩,by rw[<-a4];exact⟨z,z⟩⟩;rw[a5,a4]at b7;rw[a5,a4];have d2:=O (EQ Z.1 Z.2.1);clear d0 d5 d3 a0 e3 b8 e1 a8 b6 c9 J a5 a4;refine nm ?_;refine el 19 (some 65) d2 ?_;refine el 20 (some 66) d2 ?_;refine nm ?_;refine oD 21 fun Q E=>?_;refine aA yN (.tmp 66) (.tmp 55) z F 0 101 z1 C z z HZ.1.1 HZ.1.2 Z.1 (by rw[<-HC.o];simp[fb,eD]) ?_;intro W5 k5 c5;have M:=O (EQ k5 c5);clear k5 c5;apply E _ _ nofun;clear E Q;refine oD 22 fun Q E=>?_;go_simp
 apply E _ _ nofun;clear E Q;refine oD 23 fun Q E=>?_;go_simp;apply E _ _ nofun;clear E Q;refine oD 24 fun Q E=>?_;go_simp;apply E _ _ nofun;clear E Q;refine oD 25 fun Q E=>?_;refine aA iL (.tmp 69) (.tmp 64) z F 8 101 z2 (C.set 0 z1) z z HZ.2.1 HZ.2.2 M.1 (by rw[<-HC.o];simp[fb,eD]) ?_;intro W6 k6 c6;have S:=O (EQ k6 c6);clear k6 c6;apply E _ _ nofun;clear E Q;try simp only[Gf]
 refine dn ?_;have hC:=HC.o;have hF:F<B:=G.lt.1;have a2:=G.lt;have d9:=G.f.fg;have e0:=G.f.fh;have e9:Hid (gg B F g h w j d bv {P with vars:=P.vars++[d.num],nv:=P.nv++[d.name]} (([.slice X K Y,v1,v2,v3,v0,v4,v5,v6,v7].set 0 z1).set 4 z2) D W6):=O ⟨((G.k.below a6.1).ch M.2).ch S.2,G.f.pc z (by have h1:=S.1;rw[<-hC]at h1;exact h1) ((S.2.FB (fun e=>d9 e.symm)).trans ((M.2.FB (fun e=>d9 e.symm)).trans a6.2.1)) ((S.2.FB (fun e=>e0 e.symm)).trans ((M.2.FB (fun e=>e0 e.symm)).trans a6.2.2)),by have h1:=(b7.ch M.2 (.inl hF)).ch S.2 (.inl hF);simpa [eW,cI,cS]using h1,S.2.CV (by omega) (M.2.CV (by omega) Z.2.1),by rw[S.o.2.size,M.o.2.size];exact⟨a2.1,a2.2.1,a2.2.2.1,a2.2.2.2.1,Z.2.1.lt⟩⟩
 have f0:=O (S.2.CV (by have:=a3.o;omega) (M.2.CV (by have:=a3.o;omega) Z.2.2));clear M S Z b7 a6 G b4 d7 A;go_wp2;apply f2;exact fQ e9 f0 HN (by rw[a9.o];decide) f1 ⟨z,z,z⟩ (O (HR.symm.trans ((sT HN a9).trans (by rw[a9.o,e6.o.symm];simp[eW]))))
theorem dG{g:Array Oper}{H:Exit->Act->Fk->Prop}{E:Region.Mode}{D:List Nat}{S:Fk->Prop}{F:Array Bool}{a:Act}(i:Nat){o:Oper}(Y:Region.ready E g F=[i])(K:g[i]? =some o)(U:o.guard=none)(a0:o.dst=none)(N:D.contains i=true)
  {T:GA}(V:(prog.info? T).map (·.size)=some 1)(x y:Operand)(Z:o.op= .store T x y)(b k:Nat)(A:GA)(v:Fr)(C:List Fr)(X:a.eval x= .pointer (some (ad b k)))(hy:a.eval y=v)(hv:v.cells= #[v])(R:v.oneCell'=true)(J:ak w b A C)(hk:k<C.length)
  (h:∀W,ak W b A (C.set k v)->Ch b w W->cK prog E g H D S j (F.setIfInBounds i true) a W):cK prog E g H D S (j+1) F a w:=by
 refine cf i Y K U fun a1 hK=>?_;refine aA V x y Z b k A v C X hy hv R J hk fun W M Q=>hK _ _ (fun G=>?_) ?_
 .rw[N]at G;cases G
 .rw[a0];exact h W M Q
theorem yR{B F h:Nat}{d:De}{bv:Fr}{P:Pg}{D:PF}(HQ:Hid (gg B F g h w n0 d bv P [v1,v8,v2,v3,v4,v0,v5,v6,v7] D W))(HX:Hid (ak W n5 104 [I d.kind,I 0]))(d5:Hid (mX W B n0 n5 [v1,v8,v2,v3,v4,v0,v5,v6,v7]))(d8:B<=n5/\n5≠n0)(hn:ex D.L d.name=none)(hi:i<=1000)(e0:Hid (xN P 1000))(hk:d.kind=2)(g3:0<=D.ce/\D.ce<=256)(hU:l2.length=237:=by rfl):FR prog (Jp 4 (f37.body.getD .skip)) (Gb prog f37 (xA B F g h D w (gl P D.L D.ce i d))) ⟨(Pt F::I i::v9::u0::u1::Pt n0::u2::u3::Pt F::Pt n5::l2).toArray,[]⟩ W:=by
 revert l2;apply aN;iterate 237 intro _
 change FR _ _ _ _ _;have d1:prog.follows .mixedOrders=true:=by kernel_rfl
 have q0:W.cell? (ad n0 0)=some (I d.kind):=HQ.d.cell 0;rw[hk]at q0;have q1:W.cell? (ad n0 1)=some (I d.line):=HQ.d.cell 1;have q2:W.cell? (ad n0 2)=some (I d.Dm):=HQ.d.cell 2;have q4:W.cell? (ad n0 4)=some (I d.num):=HQ.d.cell 4;have HN:=O hn;have a6:=O d8;have f5:=O hi;have a3:=O hk;clear hn d8 hi;obtain⟨R,hR⟩:=eX (gl P D.L D.ce i d);rw[hR];have HR:=O hR;clear hR;conv in (Jp _ _)=>whnf
 refine wk fun KK f3=>?_;have d7:=eT d.num 1 256 (d.line,d.Dm) W;go_wp2_with fail;apply d7.mono;clear d7 q0 q1 q2 q4;rintro e W2 ⟨U,Z⟩;have c8:=O (HQ.below U);have e9:=O (HX.below U);have e1:=O (d5.up U.size);clear HQ HX d5 U;by_cases d3:d.num<1∨256<d.num
 .rw[aD d3]at Z;have hq:R= .error ((d.line,d.Dm),134):=HR.symm.trans (mz HN a3 (by omega));rw[hq,Z];exact⟨z,c8.k,z⟩
 rw[am d3]at Z;subst Z;go_wp2;obtain⟨M,K⟩:=eX W2.drew;have A:Hid (gg B F g h w n0 d bv P [v1,v8,v2,v3,v4,v0,v5,v6,v7] D M):=O (by rw[<-K];exact c8.below (FB _ _).drew);have Y:Hid (ak M n5 104 [I d.kind,I 0]):=O (K▸e9.o.drew);have a0:Hid (mX M B n0 n5 [v1,v8,v2,v3,v4,v0,v5,v6,v7]):=O (K▸e1.o);clear c8 e9 e1;apply al [9] (fun W=>gg B F g h w n0 d bv P [v1,v8,v2,v3,v4,v0,v5,v6,v7] D W) d1;rw[K];clear K;refine tk 0 (some 77) A ?_;refine tk 1 (some 78) A ?_;refine tk 2 (some 79) A ?_;refine tf _ 3 (some 80) A (fun E J=>J.f.c15) ?_;refine nm ?_;refine tk 4 (some 81) A ?_;refine tf (fun E=>E.cell? ⟨n0,4,none⟩=some (.int .i64 d.num)) 5 (some 82) A (fun E J=>J.d.cell 4) ?_;refine tk 6 (some 83) A ?_
 refine tk 7 (some 84) A ?_;refine nm ?_;refine tk 8 (some 85) A ?_;refine nm ?_;refine oD 9 fun N G=>?_;refine aA dx (.tmp 85) (.tmp 83) z F 15 101 (I (D.ce+d.num)) _ z (by first|rfl| (refine congrArg (Gr IntKind.i64) ?_;rw[IntWalk.i64_in _ (by omega)])) z z A.f.f (by simp[fb,eD]) ?_;intro W3 k3 c3;have a8:=O (A.Dc (j:=2) (D':={D with ce:=D.ce+d.num}) k3 c3 z z);have a7:=O (c3.CV (by have:=a6.o;have:=A.lt;omega) Y);have a4:=O (a0.up (GB c3.size.symm));refine G _ _ nofun ?_;clear G N k3 c3 A Y a0;try simp only[Gf]
 refine dn ?_;go_wp2_with fail;obtain⟨V2,K⟩:∃M,W3.drew=M:=⟨_,z⟩;have A:Hid (gg B F g h w n0 d bv P [v1,v8,v2,v3,v4,v0,v5,v6,v7] {D with ce:=D.ce+d.num} V2):=O (by rw[<-K];exact a8.o.below (FB _ _).drew);have Y:Hid (ak V2 n5 104 [I d.kind,I 0]):=O (by rw[<-K];exact a7.o.drew);have a0:Hid (mX V2 B n0 n5 [v1,v8,v2,v3,v4,v0,v5,v6,v7]):=O (by rw[<-K];exact a4.o);clear a8 a7 a4;refine al [] (fun W=>gg B F g h w n0 d bv P [v1,v8,v2,v3,v4,v0,v5,v6,v7] {D with ce:=D.ce+d.num} W) d1 ?_;rw[K];clear K;refine tk 0 (some 86) A ?_;refine tk 1 (some 87) A ?_;refine tk 2 (some 88) A ?_;refine tf _ 3 (some 89) A (fun E J=>J.f.c15) ?_;refine nm ?_;refine tk 4 (some 90) A ?_
 refine tf (fun E=>E.cell? ⟨n0,1,none⟩=some (.int .i64 d.line)/\E.cell? ⟨n0,2,none⟩=some (.int .i64 d.Dm)) 5 (some 91) A (fun E J=>⟨J.d.cell 1,J.d.cell 2⟩) ?_;refine nm ?_;refine oD 6 fun N G=>?_;go_simp;refine(eT (D.ce+d.num) 1 256 (d.line,d.Dm) V2).mono ?_;rintro e W4 ⟨U,Z⟩;have a1:=O (A.o.below U);have d9:=O (Y.o.below U);have b6:=O (a0.o.up U.size);clear A Y a0 U;by_cases f0:D.ce+d.num<1∨256<D.ce+d.num
 .rw[aD f0]at Z;have hq:R= .error ((d.line,d.Dm),134):=HR.o.symm.trans (mz HN.o a3.o (by omega));rw[hq,Z];exact⟨z,a1.o.k,z⟩
 rw[am f0]at Z;subst Z;refine G _ _ (fun _=>a1.o) ?_;clear G N;try simp only[Gf]
 refine dn ?_;obtain⟨la,lk,f2,f8⟩:=(a1.o.s.gr 1 (by decide)).form;obtain rfl:v8= .slice la ((eW P).getD 1 []).length lk:=f2;obtain⟨S,d0⟩:∃n,((eW P).getD 1 []).length=n:=⟨_,z⟩;have f7:=O d0;rw[d0]at a1 b6;clear f8 d0;have f6:W4.cell? ⟨F,1,none⟩=some (.slice la S lk):=a1.o.f.f.cell 1;go_wp2_with (first
  | ((with_reducible refine cY (.store 3 (.tmp 98) _) ?_);refine az dx z (.tmp 98) (.tmp 97) z n5 1 104 (I S) _ z z z z d9.o (by simp) ?_;intro W3 k3 c3;have a8:=O (a1.o.ch c3 a6.o.1 a6.o.2 (fun k e=> (b6.o k _ e).2.2.1 z));have a7:Hid (ak W3 n5 104 [I d.kind,I S]):=O k3;have a4:=O (b6.o.up (GB c3.size.symm));clear k3 c3 a1 d9 b6 f6)
  |fail)
 obtain⟨M,K⟩:∃M,W3.drew=M:=⟨_,z⟩;have A:Hid (gg B F g h w n0 d bv P [v1,.slice la S lk,v2,v3,v4,v0,v5,v6,v7] {D with ce:=D.ce+d.num} M):=O (by rw[<-K];exact a8.o.below (FB _ _).drew);have Y:Hid (ak M n5 104 [I d.kind,I S]):=O (by rw[<-K];exact a7.o.drew);have a0:Hid (mX M B n0 n5 [v1,.slice la S lk,v2,v3,v4,v0,v5,v6,v7]):=O (by rw[<-K];exact a4.o);clear a8 a7 a4;obtain⟨C,hC⟩:=eX (fb P [v1,.slice la S lk,v2,v3,v4,v0,v5,v6,v7]++eD g h {D with ce:=D.ce+d.num});have HC:=O hC;have H:Hid (ak M F 101 C/\ak M n0 46 (dg d bv)):=O ⟨hC▸A.o.f.f,A.d⟩;clear hC;apply al [1,21,22,23,24,25] (fun W=>ak W F 101 C/\ak W n0 46 (dg d bv)) d1;rw[K];clear K
 refine ck 1 (some 100) (v:=?_) z z (by kernel_rfl) (fun _ _ _ h=>h) (GJ ⟨by rfl,?_⟩) ?_;rotate_left
 .intro E J;clear J;go_simp;first|with_reducible rfl|rw[am (by omega)]
 refine el 0 (some 99) H ?_;refine el 2 (some 101) H ?_;refine el 3 (some 102) H ?_;refine nm ?_;refine el 4 (some 103) H ?_;refine ld (fun E=>E.cell? ⟨F,1,none⟩=some (.slice la S lk)) 5 (some 104) H (fun E J=> (J.1.cell 1).trans (by rw[<-HC.o];rfl)) ?_;refine el 6 (some 105) H ?_;refine ld (fun E=>E.cell? ⟨n0,4,none⟩=some (.int .i64 d.num)) 7 (some 106) H (fun E J=>J.2.cell 4) ?_;refine nm ?_;refine el 10 (some 109) H ?_;refine el 11 (some 110) H ?_;refine el 12 (some 111) H ?_;refine el 13 (some 112) H ?_;refine nm ?_;refine ld (fun E=>E.cell? ⟨F,9,none⟩=some v0) 14 (some 113) H (fun E J=> (J.1.cell 9).trans (by rw[<-HC.o];rfl)) ?_;refine el 15 (some 114) H ?_
 refine ld (fun E=>E.cell? ⟨n0,3,none⟩=some (.string d.name)) 16 (some 115) H (fun E J=>J.2.cell 3) ?_;simp only[Gf,List.setIfInBounds_toArray,List.set_cons_zero,List.set_cons_succ];have c9:=A.lt;have d2:=A.s.ap;have Q:=a0.o
 refine kn (E1:=jX 3 1) (E2:=jX 9 1) (B:=B) 8 9 17 18 107 108 116 117 24 26 104 106 113 115 ⟨z,z,z,z⟩ ⟨z,z,z,z⟩ ⟨z,z,z,z⟩ (by kernel_rfl) (by kernel_rfl) (by kernel_rfl) (by kernel_rfl) (by kernel_rfl) (by kernel_rfl) (by decide) ⟨z,z,z,z⟩ z (by decide) xJ tZ (dw _ _) (dw _ _) z z (A.s.gr 1 (by decide)) (A.s.gr 5 (by decide)) (fun c hc=>d2 1 5 c (by decide) hc) (I d.num) (.string d.name) (cI d.num) (cS d.name) (cI d.num) (cS d.name) z z ⟨z,z⟩ (fun _ _=>zj _ _ _ _) (fun _ _=>ui _ _ _ _) ⟨FU (e0.1 1) (by decide),FU (e0.1 5) (by decide)⟩ (by omega) (fun W hk=>⟨H.1.of (hk F (by omega) (fun e=>by have:=(Q 1 F e).1;omega) (fun e=>by have:=(Q 5 F e).1;omega)),H.2.of (hk n0 c9.2.2.2.2 (fun e=> (Q 1 _ e).2.1 z) (fun e=> (Q 5 _ e).2.1 z))⟩) ?_
 intro f9 v9 g1 k1 g2 k2 W4 e6 d6 e3 a5 d4 e8 e5;have b9:=O (A.s.set2 (by decide:1<9) (by decide:5<9) (by decide) e6 d6 a5 (fun c hc=>by cases hc;exact d4) (fun c hc=>by cases hc;exact e8) (fun c hc e=>by cases hc;cases e;exact e5 z));have b8:∀c,c<B->W4.1[c]? =M.1[c]? :=fun c hc=>a5 c (by omega) (fun e=>by have:=(Q 1 c e).1;omega) (fun e=>by have:=(Q 5 c e).1;omega);have a2:Hid (ak W4 F 101 C/\ak W4 n0 46 (dg d bv)/\ak W4 n5 104 [I d.kind,I S]):=O ⟨H.1.of (b8 F (by omega)),H.2.of (a5 n0 c9.2.2.2.2 (fun e=> (Q 1 _ e).2.1 z) (fun e=> (Q 5 _ e).2.1 z)),Y.of (a5 n5 Y.lt (fun e=> (Q 1 _ e).2.2.1 z) (fun e=> (Q 5 _ e).2.2.1 z))⟩;have b4:=O (EQ e3 (EQ (b8 g (by omega)) (b8 h (by omega))))
 obtain⟨z1,a9⟩:=eX (Gd (some ⟨g1,0,none⟩) (((eW P).getD 1 []).length+1) k1);obtain⟨z2,b5⟩:=eX (Gd (some ⟨g2,0,none⟩) (((eW P).getD 5 []).length+1) k2);have HZ:Hid ((z1.cells= #[z1]/\z1.oneCell'=true)/\(z2.cells= #[z2]/\z2.oneCell'=true)):=O ⟨by rw[<-a9];exact⟨z,z⟩,by rw[<-b5];exact⟨z,z⟩⟩;rw[a9,b5]at b9;rw[a9,b5];have e2:=O (EQ a2.1 a2.2.1);clear e6 d6 e3 a5 d4 e8 e5 b8 c9 d2 Q a9 b5;refine nm ?_;refine el 19 (some 118) e2 ?_;refine el 20 (some 119) e2 ?_;refine nm ?_;refine oD 21 fun N G=>?_;refine aA tJ (.tmp 119) (.tmp 108) z F 1 101 z1 C z z HZ.1.1 HZ.1.2 a2.1 (by rw[<-HC.o];simp[fb,eD]) ?_;intro W5 k5 c5;have V:=O (EQ k5 c5);clear k5 c5;apply G _ _ nofun;clear G N;refine oD 22 fun N G=>?_
 go_simp;apply G _ _ nofun;clear G N;refine oD 23 fun N G=>?_;go_simp;apply G _ _ nofun;clear G N;refine oD 24 fun N G=>?_;go_simp;apply G _ _ nofun;clear G N;refine oD 25 fun N G=>?_;refine aA iL (.tmp 122) (.tmp 117) z F 9 101 z2 (C.set 1 z1) z z HZ.2.1 HZ.2.2 V.1 (by rw[<-HC.o];simp[fb,eD]) ?_;intro W6 k6 c6;have X:=O (EQ k6 c6);clear k6 c6;apply G _ _ nofun;clear G N;try simp only[Gf]
 refine dn ?_;have hC:=HC.o;have hF:F<B:=A.lt.1;have b7:=A.lt;have e4:=A.f.fg;have e7:=A.f.fh
 have f4:Hid (gg B F g h w n0 d bv {P with CW:=P.CW++[d.num],na:=P.na++[d.name]} (([v1,.slice la S lk,v2,v3,v4,v0,v5,v6,v7].set 1 z1).set 5 z2) {D with ce:=D.ce+d.num} W6):=O ⟨((A.k.below b4.1).ch V.2).ch X.2,A.f.pc z (by have h1:=X.1;rw[<-hC]at h1;exact h1) ((X.2.FB (fun e=>e4 e.symm)).trans ((V.2.FB (fun e=>e4 e.symm)).trans b4.2.1)) ((X.2.FB (fun e=>e7 e.symm)).trans ((V.2.FB (fun e=>e7 e.symm)).trans b4.2.2)),by have h1:=(b9.ch V.2 (.inl hF)).ch X.2 (.inl hF);simpa [eW,cI,cS]using h1,X.2.CV (by omega) (V.2.CV (by omega) a2.2.1),by rw[X.o.2.size,V.o.2.size];exact⟨b7.1,b7.2.1,b7.2.2.1,b7.2.2.2.1,a2.2.1.lt⟩⟩;have f1:=O (X.2.CV (by have:=a6.o;omega) (V.2.CV (by have:=a6.o;omega) a2.2.2))
 clear V X a2 b9 b4 A Y a0 H;go_wp2;apply f3;exact fQ f4 f1 HN (by rw[a3.o];decide) f5 ⟨z,z,z⟩ (O (HR.symm.trans ((tS HN a3 (by omega)).trans (by rw[a3.o,f7.o.symm];simp[eW]))))
theorem zu{B F h:Nat}{d:De}{bv:Fr}{P:Pg}{D:PF}(Q:Hid (gg B F g h w j d bv P [v1,v2,v3,v4,v5,v6,v0,v7,v8] D W))(HX:Hid (ak W n0 104 [I d.kind,I 0]))(a8:Hid (mX W B j n0 [v1,v2,v3,v4,v5,v6,v0,v7,v8]))(b9:B<=n0/\n0≠j)(hn:ex D.L d.name=none)(hi:i<=1000)(d5:Hid (xN P 1000))(hk:d.kind=3)(hU:l2.length=237:=by rfl):FR prog (Jp 4 (f37.body.getD .skip)) (Gb prog f37 (xA B F g h D w (gl P D.L D.ce i d))) ⟨(Pt F::I i::u3::v9::u0::Pt j::u1::u2::Pt F::Pt n0::l2).toArray,[]⟩ W:=by
 revert l2;apply aN;iterate 237 intro _
 change FR _ _ _ _ _;have e3:prog.follows .mixedOrders=true:=by kernel_rfl
 have q0:W.cell? ⟨j,0,none⟩=some (.int .i64 d.kind):=Q.o.d.cell 0;rw[hk]at q0;have q1:W.cell? ⟨j,1,none⟩=some (.int .i64 d.line):=Q.o.d.cell 1;have q2:W.cell? ⟨j,2,none⟩=some (.int .i64 d.Dm):=Q.o.d.cell 2;have q4:W.cell? ⟨j,4,none⟩=some (.int .i64 d.num):=Q.o.d.cell 4;have HN:=O hn;have a3:=O b9;have e8:=O hi;have a9:=O hk;clear hn b9 hi;obtain⟨R,hR⟩:∃R,gl P D.L D.ce i d=R:=⟨_,rfl⟩;rw[hR];have HR:=O hR;clear hR;conv in (Jp _ _)=>whnf
 refine wk fun KK e9=>?_;have f2:=O fun _:True=> (show (P.CT:Int)+1<=100000 by have:=d5.o.2;omega);have f0:W.cell? ⟨F,2,none⟩=some (.int .i64 (P.CT:Int)):=Q.o.f.f.cell 2;go_wp2_with (first
  | ((with_reducible refine cY (.store 3 (.tmp 129) _) ?_);refine az dx rfl (.tmp 129) (.tmp 128) rfl n0 1 104 (I P.CT) _ rfl rfl rfl rfl HX.o (by simp) ?_;intro W3 k3 c3;have d9:=O (Q.o.ch c3 a3.o.1 a3.o.2 (fun k e=> (a8.o k _ e).2.2.1 rfl));have c8:Hid (ak W3 n0 104 [.int .i64 d.kind,.int .i64 (P.CT:Int)]):=O k3;have d1:=O (a8.o.up (GB c3.size.symm));clear k3 c3 Q HX a8 f0 q0 q1 q2 q4)
  |fail)
 obtain⟨J,hV⟩:∃J,W3.drew=J:=⟨_,rfl⟩;have H:Hid (gg B F g h w j d bv P [v1,v2,v3,v4,v5,v6,v0,v7,v8] D J):=O (by rw[<-hV];exact d9.o.below (FB _ _).drew);have b4:Hid (ak J n0 104 [I d.kind,I P.CT]):=O (by rw[<-hV];exact c8.o.drew);have d6:Hid (mX J B j n0 [v1,v2,v3,v4,v5,v6,v0,v7,v8]):=O (by rw[<-hV];exact d1.o);clear d9 c8 d1;obtain⟨C,hC⟩:∃C,fb P [v1,v2,v3,v4,v5,v6,v0,v7,v8]++eD g h D=C:=⟨_,rfl⟩;have Y:=O hC;have A:Hid (ak J F 101 C/\ak J j 46 (dg d bv)):=O ⟨by rw[<-hC];exact H.o.f.f,H.o.d⟩;clear hC;obtain⟨i9,z9,d3,d2,e2,b8,e6⟩:=bJ mB;have d4:prog.underlying 26=some (.slice 9):=by kernel_rfl
 refine al [1,18,19,20,21,22] (fun W=>ak W F 101 C/\ak W j 46 (dg d bv)) e3 ?_;rw[hV];clear hV;refine ck 1 (some 131) (v:=?_) rfl rfl (by kernel_rfl) (fun _ _ _ h=>h) (GJ ⟨by rfl,?_⟩) ?_;rotate_left
 .intro G E;clear E;go_simp;first|with_reducible rfl|rw[am (by omega)]
 refine el 0 (some 130) A ?_;refine el 2 (some 132) A ?_;refine el 3 (some 133) A ?_;refine nm ?_;refine el 4 (some 134) A ?_;refine ld (fun G=>G.cell? ⟨F,2,none⟩=some (.int .i64 (P.CT:Int))) 5 (some 135) A (fun G E=> (E.1.cell 2).trans (by rw[<-Y.o];rfl)) ?_;refine el 6 (some 136) A ?_;refine el 7 (some 137) A ?_;refine nm ?_;refine el 8 (some 138) A ?_;refine el 9 (some 139) A ?_;refine el 10 (some 140) A ?_;refine ld (fun G=>G.cell? ⟨F,10,none⟩=some v0) 11 (some 141) A (fun G E=> (E.1.cell 10).trans (by rw[<-Y.o];rfl)) ?_;refine nm ?_;refine el 12 (some 142) A ?_;refine ld (fun G=>G.cell? ⟨j,3,none⟩=some (.string d.name)) 13 (some 143) A (fun G E=>E.2.cell 3) ?_;refine nm ?_
 refine oD 14 fun a1 f3=>?_;refine cF (.tmp 143) rfl d4 d3 d2 e2 b8 (by decide) (by decide) (.string d.name) (cS d.name) rfl rfl rfl ?_;intro Wb kb bb sb;have U:=O (EQ kb bb);have e4:Hid (ak Wb F 101 C/\ak Wb j 46 (dg d bv)):=O ⟨A.o.1.below bb,A.o.2.below bb⟩;clear kb bb sb;change a1 (Gf _ (some 144) _) Wb;refine f3 _ _ (fun _=>e4.o) ?_;clear f3 a1;refine nm ?_;refine oD 15 fun a1 f3=>?_;have e1:=H.o.lt;have a6:=d6.o;refine cw (jX 9 1) (.tmp 141) (.tmp 144) 26 rfl i9 z9 d4 d3 d2 e2 b8 (by decide) e6 B Wb v0 _ rfl ((H.o.s.gr 6 (by decide)).below U.o.2) (cS d.name) (cS d.name) (ui _ _ _ _) _ 9 U.o.1 rfl (FU (d5.o.1 6) (by decide)) (by have:=U.o.2.size;omega) ?_;intro g1 k1 V c9 d0 b7 e0
 have a0:∀c,c<J.1.size->v0.ownBlock≠some c->V.1[c]? =J.1[c]? :=fun c X f1=> (b7 c (FJ X U.o.2.size) f1).trans (U.o.2.block c X);have b6:=O (H.o.s.set1 (by decide:6<9) c9 a0 (fun c X=>by
  cases X;rcases e0 with N|N
  .exact .inl N
  .exact .inr (by rw[N];exact U.o.2.size)))
 have a7:∀c,c<B->V.1[c]? =J.1[c]? :=fun c X=>a0 c (by omega) (fun e=>by have:=(a6 6 c e).1;omega);have S:Hid (ak V F 101 C/\ak V j 46 (dg d bv)/\ak V n0 104 [I d.kind,I P.CT]):=O ⟨A.o.1.of (a7 F (by omega)),A.o.2.of (a0 j e1.2.2.2.2 (fun e=> (a6 6 _ e).2.1 rfl)),b4.o.of (a0 n0 b4.o.lt (fun e=> (a6 6 _ e).2.2.1 rfl))⟩;have a5:=O (EQ ((U.o.2.mono (by omega)).trans d0) (EQ (a7 g (by omega)) (a7 h (by omega))));obtain⟨Z,a4⟩:∃z,Gd (some ⟨g1,0,none⟩) (((eW P).getD 6 []).length+1) k1=z:=⟨_,rfl⟩;have HZ:Hid (Z.cells= #[Z]/\Z.oneCell'=true):=O (by rw[<-a4];exact⟨rfl,rfl⟩);rw[a4]at b6;rw[a4];have b5:=O (EQ S.o.1 S.o.2.1);change a1 (Gf _ (some 145) _) V;refine f3 _ _ (fun _=>b5.o) ?_
 clear f3 a1 c9 d0 b7 e0 a0 a7 e1 a6 a4;refine nm ?_;refine el 16 (some 146) b5 ?_;refine el 17 (some 147) b5 ?_;refine nm ?_;refine dG 18 (by kernel_rfl) rfl rfl rfl rfl dx (.tmp 147) (.tmp 136) rfl F 2 101 (I ((P.CT+1:Nat):Int)) C rfl (by refine congrArg (Gr IntKind.i64) ?_;have:=f2.o trivial;first|omega| (rw[IntWalk.i64_in _ (by omega)];omega)) rfl rfl S.o.1 (by rw[<-Y.o];simp[fb,eD]) ?_;intro W5 k5 c5;have K:=O (EQ k5 c5);clear k5 c5;refine ck 19 (some 148) (v:=?_) rfl rfl (by kernel_rfl) (fun _ _ _ h=>h) (GJ ⟨by rfl,?_⟩) ?_;rotate_left
 .intro G E;clear E;go_simp;first|with_reducible rfl|rw[am (by omega)]
 refine ck 20 (some 149) (v:=?_) rfl rfl (by kernel_rfl) (fun _ _ _ h=>h) (GJ ⟨by rfl,?_⟩) ?_;rotate_left
 .intro G E;clear E;go_simp;first|with_reducible rfl|rw[am (by omega)]
 refine ck 21 (some 150) (v:=?_) rfl rfl (by kernel_rfl) (fun _ _ _ h=>h) (GJ ⟨by rfl,?_⟩) ?_;rotate_left
 .intro G E;clear E;go_simp;first|with_reducible rfl|rw[am (by omega)]
 refine nm ?_;refine dG 22 (by kernel_rfl) rfl rfl rfl rfl iL (.tmp 150) (.tmp 145) rfl F 10 101 Z (C.set 2 (I ((P.CT+1:Nat):Int))) rfl rfl HZ.o.1 HZ.o.2 K.o.1 (by rw[<-Y.o];simp[fb,eD]) ?_;intro W6 k6 c6;have M:=O (EQ k6 c6);clear k6 c6;try simp only[Gf]
 refine dn ?_;have hC:=Y.o;have hF:F<B:=H.o.lt.1;have a2:=H.o.lt;have d7:=H.o.f.fg;have d8:=H.o.f.fh;have e5:Hid (gg B F g h w j d bv {P with CT:=P.CT+1,nm:=P.nm++[d.name]} ([v1,v2,v3,v4,v5,v6,v0,v7,v8].set 6 Z) D W6):=O ⟨((H.o.k.below a5.o.1).ch K.o.2).ch M.o.2,H.o.f.pc rfl (by have N:=M.o.1;rw[<-hC]at N;exact N) ((M.o.2.FB (fun e=>d7 e.symm)).trans ((K.o.2.FB (fun e=>d7 e.symm)).trans a5.o.2.1)) ((M.o.2.FB (fun e=>d8 e.symm)).trans ((K.o.2.FB (fun e=>d8 e.symm)).trans a5.o.2.2)),by have N:=(b6.o.ch K.o.2 (.inl hF)).ch M.o.2 (.inl hF);simpa [eW,cS]using N,M.o.2.CV (by omega) (K.o.2.CV (by omega) S.o.2.1),by rw[M.o.2.size,K.o.2.size];exact⟨a2.1,a2.2.1,a2.2.2.1,a2.2.2.2.1,S.o.2.1.lt⟩⟩
 have e7:=O (M.o.2.CV (by have:=a3.o;omega) (K.o.2.CV (by have:=a3.o;omega) S.o.2.2));clear K M S b6 a5 H b4 d6 A;go_wp2_with fail;refine e9.o _ _ ?_;exact fQ e5 e7 HN.o (by rw[a9.o];decide) e8.o ⟨rfl,rfl,rfl⟩ (O (HR.o.symm.trans ((ux HN.o a9.o).trans (by rw[a9.o]))))
theorem zc{B F h:Nat}{d:De}{bv:Fr}{P:Pg}{D:PF}(Q:Hid (gg B F g h w j d bv P [v1,v2,v3,v4,v5,v6,v7,v0,v8] D W))(HX:Hid (ak W n0 104 [I d.kind,I 0]))(a8:Hid (mX W B j n0 [v1,v2,v3,v4,v5,v6,v7,v0,v8]))(b9:B<=n0/\n0≠j)(hn:ex D.L d.name=none)(hi:i<=1000)(d5:Hid (xN P 1000))(hk:d.kind=4)(hU:l2.length=237:=by rfl):FR prog (Jp 4 (f37.body.getD .skip)) (Gb prog f37 (xA B F g h D w (gl P D.L D.ce i d))) ⟨(Pt F::I i::u3::v9::u0::Pt j::u1::u2::Pt F::Pt n0::l2).toArray,[]⟩ W:=by
 revert l2;apply aN;iterate 237 intro _
 change FR _ _ _ _ _;have e3:prog.follows .mixedOrders=true:=by kernel_rfl
 have q0:W.cell? ⟨j,0,none⟩=some (.int .i64 d.kind):=Q.o.d.cell 0;rw[hk]at q0;have q1:W.cell? ⟨j,1,none⟩=some (.int .i64 d.line):=Q.o.d.cell 1;have q2:W.cell? ⟨j,2,none⟩=some (.int .i64 d.Dm):=Q.o.d.cell 2;have q4:W.cell? ⟨j,4,none⟩=some (.int .i64 d.num):=Q.o.d.cell 4;have HN:=O hn;have a3:=O b9;have e8:=O hi;have a9:=O hk;clear hn b9 hi;obtain⟨R,hR⟩:∃R,gl P D.L D.ce i d=R:=⟨_,rfl⟩;rw[hR];have HR:=O hR;clear hR;conv in (Jp _ _)=>whnf
 refine wk fun KK e9=>?_;have f2:=O fun _:True=> (show (P.conds:Int)+1<=100000 by have:=d5.o.2;omega);have f0:W.cell? ⟨F,3,none⟩=some (.int .i64 (P.conds:Int)):=Q.o.f.f.cell 3;go_wp2_with (first
  | ((with_reducible refine cY (.store 3 (.tmp 157) _) ?_);refine az dx rfl (.tmp 157) (.tmp 156) rfl n0 1 104 (I P.conds) _ rfl rfl rfl rfl HX.o (by simp) ?_;intro W3 k3 c3;have d9:=O (Q.o.ch c3 a3.o.1 a3.o.2 (fun k e=> (a8.o k _ e).2.2.1 rfl));have c8:Hid (ak W3 n0 104 [.int .i64 d.kind,.int .i64 (P.conds:Int)]):=O k3;have d1:=O (a8.o.up (GB c3.size.symm));clear k3 c3 Q HX a8 f0 q0 q1 q2 q4)
  |fail)
 obtain⟨J,hV⟩:∃J,W3.drew=J:=⟨_,rfl⟩;have H:Hid (gg B F g h w j d bv P [v1,v2,v3,v4,v5,v6,v7,v0,v8] D J):=O (by rw[<-hV];exact d9.o.below (FB _ _).drew);have b4:Hid (ak J n0 104 [I d.kind,I P.conds]):=O (by rw[<-hV];exact c8.o.drew);have d6:Hid (mX J B j n0 [v1,v2,v3,v4,v5,v6,v7,v0,v8]):=O (by rw[<-hV];exact d1.o);clear d9 c8 d1;obtain⟨C,hC⟩:∃C,fb P [v1,v2,v3,v4,v5,v6,v7,v0,v8]++eD g h D=C:=⟨_,rfl⟩;have Y:=O hC;have A:Hid (ak J F 101 C/\ak J j 46 (dg d bv)):=O ⟨by rw[<-hC];exact H.o.f.f,H.o.d⟩;clear hC;obtain⟨i9,z9,d3,d2,e2,b8,e6⟩:=bJ mB;have d4:prog.underlying 26=some (.slice 9):=by kernel_rfl
 refine al [1,18,19,20,21,22] (fun W=>ak W F 101 C/\ak W j 46 (dg d bv)) e3 ?_;rw[hV];clear hV;refine ck 1 (some 159) (v:=?_) rfl rfl (by kernel_rfl) (fun _ _ _ h=>h) (GJ ⟨by rfl,?_⟩) ?_;rotate_left
 .intro G E;clear E;go_simp;first|with_reducible rfl|rw[am (by omega)]
 refine el 0 (some 158) A ?_;refine el 2 (some 160) A ?_;refine el 3 (some 161) A ?_;refine nm ?_;refine el 4 (some 162) A ?_;refine ld (fun G=>G.cell? ⟨F,3,none⟩=some (.int .i64 (P.conds:Int))) 5 (some 163) A (fun G E=> (E.1.cell 3).trans (by rw[<-Y.o];rfl)) ?_;refine el 6 (some 164) A ?_;refine el 7 (some 165) A ?_;refine nm ?_;refine el 8 (some 166) A ?_;refine el 9 (some 167) A ?_;refine el 10 (some 168) A ?_;refine ld (fun G=>G.cell? ⟨F,11,none⟩=some v0) 11 (some 169) A (fun G E=> (E.1.cell 11).trans (by rw[<-Y.o];rfl)) ?_;refine nm ?_;refine el 12 (some 170) A ?_;refine ld (fun G=>G.cell? ⟨j,3,none⟩=some (.string d.name)) 13 (some 171) A (fun G E=>E.2.cell 3) ?_;refine nm ?_
 refine oD 14 fun a1 f3=>?_;refine cF (.tmp 171) rfl d4 d3 d2 e2 b8 (by decide) (by decide) (.string d.name) (cS d.name) rfl rfl rfl ?_;intro Wb kb bb sb;have U:=O (EQ kb bb);have e4:Hid (ak Wb F 101 C/\ak Wb j 46 (dg d bv)):=O ⟨A.o.1.below bb,A.o.2.below bb⟩;clear kb bb sb;change a1 (Gf _ (some 172) _) Wb;refine f3 _ _ (fun _=>e4.o) ?_;clear f3 a1;refine nm ?_;refine oD 15 fun a1 f3=>?_;have e1:=H.o.lt;have a6:=d6.o;refine cw (jX 9 1) (.tmp 169) (.tmp 172) 26 rfl i9 z9 d4 d3 d2 e2 b8 (by decide) e6 B Wb v0 _ rfl ((H.o.s.gr 7 (by decide)).below U.o.2) (cS d.name) (cS d.name) (ui _ _ _ _) _ 9 U.o.1 rfl (FU (d5.o.1 7) (by decide)) (by have:=U.o.2.size;omega) ?_;intro g1 k1 V c9 d0 b7 e0
 have a0:∀c,c<J.1.size->v0.ownBlock≠some c->V.1[c]? =J.1[c]? :=fun c X f1=> (b7 c (FJ X U.o.2.size) f1).trans (U.o.2.block c X);have b6:=O (H.o.s.set1 (by decide:7<9) c9 a0 (fun c X=>by
  cases X;rcases e0 with N|N
  .exact .inl N
  .exact .inr (by rw[N];exact U.o.2.size)))
 have a7:∀c,c<B->V.1[c]? =J.1[c]? :=fun c X=>a0 c (by omega) (fun e=>by have:=(a6 7 c e).1;omega);have S:Hid (ak V F 101 C/\ak V j 46 (dg d bv)/\ak V n0 104 [I d.kind,I P.conds]):=O ⟨A.o.1.of (a7 F (by omega)),A.o.2.of (a0 j e1.2.2.2.2 (fun e=> (a6 7 _ e).2.1 rfl)),b4.o.of (a0 n0 b4.o.lt (fun e=> (a6 7 _ e).2.2.1 rfl))⟩;have a5:=O (EQ ((U.o.2.mono (by omega)).trans d0) (EQ (a7 g (by omega)) (a7 h (by omega))));obtain⟨Z,a4⟩:∃z,Gd (some ⟨g1,0,none⟩) (((eW P).getD 7 []).length+1) k1=z:=⟨_,rfl⟩;have HZ:Hid (Z.cells= #[Z]/\Z.oneCell'=true):=O (by rw[<-a4];exact⟨rfl,rfl⟩);rw[a4]at b6;rw[a4];have b5:=O (EQ S.o.1 S.o.2.1);change a1 (Gf _ (some 173) _) V;refine f3 _ _ (fun _=>b5.o) ?_
 clear f3 a1 c9 d0 b7 e0 a0 a7 e1 a6 a4;refine nm ?_;refine el 16 (some 174) b5 ?_;refine el 17 (some 175) b5 ?_;refine nm ?_;refine dG 18 (by kernel_rfl) rfl rfl rfl rfl dx (.tmp 175) (.tmp 164) rfl F 3 101 (I ((P.conds+1:Nat):Int)) C rfl (by refine congrArg (Gr IntKind.i64) ?_;have:=f2.o trivial;first|omega| (rw[IntWalk.i64_in _ (by omega)];omega)) rfl rfl S.o.1 (by rw[<-Y.o];simp[fb,eD]) ?_;intro W5 k5 c5;have K:=O (EQ k5 c5);clear k5 c5;refine ck 19 (some 176) (v:=?_) rfl rfl (by kernel_rfl) (fun _ _ _ h=>h) (GJ ⟨by rfl,?_⟩) ?_;rotate_left
 .intro G E;clear E;go_simp;first|with_reducible rfl|rw[am (by omega)]
 refine ck 20 (some 177) (v:=?_) rfl rfl (by kernel_rfl) (fun _ _ _ h=>h) (GJ ⟨by rfl,?_⟩) ?_;rotate_left
 .intro G E;clear E;go_simp;first|with_reducible rfl|rw[am (by omega)]
 refine ck 21 (some 178) (v:=?_) rfl rfl (by kernel_rfl) (fun _ _ _ h=>h) (GJ ⟨by rfl,?_⟩) ?_;rotate_left
 .intro G E;clear E;go_simp;first|with_reducible rfl|rw[am (by omega)]
 refine nm ?_;refine dG 22 (by kernel_rfl) rfl rfl rfl rfl iL (.tmp 178) (.tmp 173) rfl F 11 101 Z (C.set 3 (I ((P.conds+1:Nat):Int))) rfl rfl HZ.o.1 HZ.o.2 K.o.1 (by rw[<-Y.o];simp[fb,eD]) ?_;intro W6 k6 c6;have M:=O (EQ k6 c6);clear k6 c6;try simp only[Gf]
 refine dn ?_;have hC:=Y.o;have hF:F<B:=H.o.lt.1;have a2:=H.o.lt;have d7:=H.o.f.fg;have d8:=H.o.f.fh;have e5:Hid (gg B F g h w j d bv {P with conds:=P.conds+1,nc:=P.nc++[d.name]} ([v1,v2,v3,v4,v5,v6,v7,v0,v8].set 7 Z) D W6):=O ⟨((H.o.k.below a5.o.1).ch K.o.2).ch M.o.2,H.o.f.pc rfl (by have N:=M.o.1;rw[<-hC]at N;exact N) ((M.o.2.FB (fun e=>d7 e.symm)).trans ((K.o.2.FB (fun e=>d7 e.symm)).trans a5.o.2.1)) ((M.o.2.FB (fun e=>d8 e.symm)).trans ((K.o.2.FB (fun e=>d8 e.symm)).trans a5.o.2.2)),by have N:=(b6.o.ch K.o.2 (.inl hF)).ch M.o.2 (.inl hF);simpa [eW,cS]using N,M.o.2.CV (by omega) (K.o.2.CV (by omega) S.o.2.1),by rw[M.o.2.size,K.o.2.size];exact⟨a2.1,a2.2.1,a2.2.2.1,a2.2.2.2.1,S.o.2.1.lt⟩⟩
 have e7:=O (M.o.2.CV (by have:=a3.o;omega) (K.o.2.CV (by have:=a3.o;omega) S.o.2.2));clear K M S b6 a5 H b4 d6 A;go_wp2_with fail;refine e9.o _ _ ?_;exact fQ e5 e7 HN.o (by rw[a9.o];decide) e8.o ⟨rfl,rfl,rfl⟩ (O (HR.o.symm.trans ((ub HN.o a9.o).trans (by rw[a9.o]))))
theorem yK{B F h:Nat}{d:De}{bv:Fr}{P:Pg}{D:PF}(HQ:Hid (gg B F g h w j d bv P [v1,v2,v8,v3,v4,v5,v6,v7,v0] D W))(HX:Hid (ak W n0 104 [I d.kind,I 0]))(d2:Hid (mX W B j n0 [v1,v2,v8,v3,v4,v5,v6,v7,v0]))(c8:B<=n0/\n0≠j)(hn:ex D.L d.name=none)(hi:i<=1000)(d7:Hid (xN P 1000))(hk:d.kind=5)(hU:l2.length=237:=by rfl):FR prog (Jp 4 (f37.body.getD .skip)) (Gb prog f37 (xA B F g h D w (gl P D.L D.ce i d))) ⟨(Pt F::I i::v9::u0::u1::Pt j::u2::u3::Pt F::Pt n0::l2).toArray,[]⟩ W:=by
 revert l2;apply aN;iterate 237 intro _
 change FR _ _ _ _ _;have e7:prog.follows .mixedOrders=true:=by kernel_rfl
 have q0:W.cell? ⟨j,0,none⟩=some (I d.kind):=HQ.o.d.cell 0;rw[hk]at q0;have q1:W.cell? ⟨j,1,none⟩=some (I d.line):=HQ.o.d.cell 1;have q2:W.cell? ⟨j,2,none⟩=some (I d.Dm):=HQ.o.d.cell 2;have q4:W.cell? ⟨j,4,none⟩=some (I d.num):=HQ.o.d.cell 4;have HN:=O hn;have a3:=O c8;have f1:=O hi;have a4:=O hk;clear hn c8 hi;obtain⟨R,hR⟩:∃R,gl P D.L D.ce i d=R:=⟨_,z⟩;rw[hR];have HR:=O hR;clear hR;conv in (Jp _ _)=>whnf
 refine wk fun KK f2=>?_;have e4:=eT d.num 1 16 (d.line,d.Dm) W;go_wp2_with fail;refine e4.mono ?_;clear e4 q0 q1 q2 q4;rintro e W2 ⟨hb,he⟩;have a0:=O (HQ.o.below hb);have e5:=O (HX.o.below hb);have a8:=O (d2.o.up hb.size);clear HQ HX d2 hb;by_cases b6:d.num<1∨16<d.num
 .rw[aD b6]at he;have hq:R= .error ((d.line,d.Dm),134):=HR.o.symm.trans (qu HN.o a4.o (by omega));rw[hq,he];exact⟨z,a0.o.k,z⟩
 rw[am b6]at he;subst he;obtain⟨X,Y,f4,e8⟩:=(a0.o.s.gr 2 (by decide)).form;obtain rfl:v8= .slice X ((eW P).getD 2 []).length Y:=f4;obtain⟨K,b5⟩:∃n,((eW P).getD 2 []).length=n:=⟨_,z⟩;have e6:=O b5;rw[b5]at a0 a8;clear e8 b5;have f3:W2.cell? ⟨F,4,none⟩=some (.slice X K Y):=a0.o.f.f.cell 4;go_wp2_with (first
  | ((with_reducible refine cY (.store 3 (.tmp 191) _) ?_);refine az dx z (.tmp 191) (.tmp 190) z n0 1 104 (I K) _ z z z z e5.o (by simp) ?_;intro W3 k3 c3;have e2:=O (a0.o.ch c3 a3.o.1 a3.o.2 (fun k e=> (a8.o k _ e).2.2.1 z));have c9:Hid (ak W3 n0 104 [I d.kind,I K]):=O k3;have d5:=O (a8.o.up (GB c3.size.symm));clear k3 c3 a0 e5 a8 f3)
  |fail)
 obtain⟨V,hV⟩:∃V,W3.drew=V:=⟨_,z⟩;have G:Hid (gg B F g h w j d bv P [v1,v2,.slice X K Y,v3,v4,v5,v6,v7,v0] D V):=O (by rw[<-hV];exact e2.o.below (FB _ _).drew);have b4:Hid (ak V n0 104 [I d.kind,I K]):=O (by rw[<-hV];exact c9.o.drew);have d8:Hid (mX V B j n0 [v1,v2,.slice X K Y,v3,v4,v5,v6,v7,v0]):=O (by rw[<-hV];exact d5.o);clear e2 c9 d5;obtain⟨C,hC⟩:=eX (fb P [v1,v2,.slice X K Y,v3,v4,v5,v6,v7,v0]++eD g h D);have HC:=O hC;have A:Hid (ak V F 101 C/\ak V j 46 (dg d bv)):=O ⟨hC▸G.o.f.f,G.d⟩;clear hC;apply al [1,21,22,23,24,25] (fun W=>ak W F 101 C/\ak W j 46 (dg d bv)) e7;rw[hV];clear hV;refine ck 1 (some 193) (v:=?_) z z (by kernel_rfl) (fun _ _ _ h=>h) (GJ ⟨by rfl,?_⟩) ?_;rotate_left
 .intro H N;clear N;go_simp;first|with_reducible rfl|rw[am (by omega)]
 refine el 0 (some 192) A ?_;refine el 2 (some 194) A ?_;refine el 3 (some 195) A ?_;refine nm ?_;refine el 4 (some 196) A ?_;refine ld (fun H=>H.cell? ⟨F,4,none⟩=some (.slice X K Y)) 5 (some 197) A (fun H N=> (N.1.cell 4).trans (by rw[<-HC.o];rfl)) ?_;refine el 6 (some 198) A ?_;refine ld (fun H=>H.cell? ⟨j,4,none⟩=some (.int .i64 d.num)) 7 (some 199) A (fun H N=>N.2.cell 4) ?_;refine nm ?_;refine el 10 (some 202) A ?_;refine el 11 (some 203) A ?_;refine el 12 (some 204) A ?_;refine el 13 (some 205) A ?_;refine nm ?_;refine ld (fun H=>H.cell? ⟨F,12,none⟩=some v0) 14 (some 206) A (fun H N=> (N.1.cell 12).trans (by rw[<-HC.o];rfl)) ?_;refine el 15 (some 207) A ?_
 refine ld (fun H=>H.cell? ⟨j,3,none⟩=some (.string d.name)) 16 (some 208) A (fun H N=>N.2.cell 3) ?_;simp only[Gf,List.setIfInBounds_toArray,List.set_cons_zero,List.set_cons_succ];have b7:=G.lt;have d0:=G.s.ap;have J:=d8.o
 refine kn (E1:=jX 3 1) (E2:=jX 9 1) (B:=B) 8 9 17 18 200 201 209 210 24 26 197 199 206 208 ⟨z,z,z,z⟩ ⟨z,z,z,z⟩ ⟨z,z,z,z⟩ (by kernel_rfl) (by kernel_rfl) (by kernel_rfl) (by kernel_rfl) (by kernel_rfl) (by kernel_rfl) (by decide) ⟨z,z,z,z⟩ z (by decide) xJ tZ (dw _ _) (dw _ _) z z (G.s.gr 2 (by decide)) (G.s.gr 8 (by decide)) (fun c U=>d0 2 8 c (by decide) U) (I d.num) (.string d.name) (cI d.num) (cS d.name) (cI d.num) (cS d.name) z z ⟨z,z⟩ (fun _ _=>zj _ _ _ _) (fun _ _=>ui _ _ _ _) ⟨FU (d7.1 2) (by decide),FU (d7.1 8) (by decide)⟩ (by omega) (fun W hk=>⟨A.1.of (hk F (by omega) (fun e=>by have:=(J 2 F e).1;omega) (fun e=>by have:=(J 8 F e).1;omega)),A.2.of (hk j b7.2.2.2.2 (fun e=> (J 2 _ e).2.1 z) (fun e=> (J 8 _ e).2.1 z))⟩) ?_
 intro f5 v9 g1 k1 g2 k2 W4 d1 d6 d4 a1 e3 b9 e1;have b8:=O (G.s.set2 (by decide:2<9) (by decide:8<9) (by decide) d1 d6 a1 (fun c U=>by cases U;exact e3) (fun c U=>by cases U;exact b9) (fun c U e=>by cases U;cases e;exact e1 z));have a9:∀c,c<B->W4.1[c]? =V.1[c]? :=fun c U=>a1 c (by omega) (fun e=>by have:=(J 2 c e).1;omega) (fun e=>by have:=(J 8 c e).1;omega);have Z:Hid (ak W4 F 101 C/\ak W4 j 46 (dg d bv)/\ak W4 n0 104 [I d.kind,I K]):=O ⟨A.1.of (a9 F (by omega)),A.2.of (a1 j b7.2.2.2.2 (fun e=> (J 2 _ e).2.1 z) (fun e=> (J 8 _ e).2.1 z)),b4.of (a1 n0 b4.lt (fun e=> (J 2 _ e).2.2.1 z) (fun e=> (J 8 _ e).2.2.1 z))⟩;have a7:=O (EQ d4 (EQ (a9 g (by omega)) (a9 h (by omega))))
 obtain⟨z1,a6⟩:=eX (Gd (some ⟨g1,0,none⟩) (((eW P).getD 2 []).length+1) k1);obtain⟨z2,a5⟩:=eX (Gd (some ⟨g2,0,none⟩) (((eW P).getD 8 []).length+1) k2);have HZ:Hid ((z1.cells= #[z1]/\z1.oneCell'=true)/\(z2.cells= #[z2]/\z2.oneCell'=true)):=O ⟨by rw[<-a6];exact⟨z,z⟩,by rw[<-a5];exact⟨z,z⟩⟩;rw[a6,a5]at b8;rw[a6,a5];have d3:=O (EQ Z.1 Z.2.1);clear d1 d6 d4 a1 e3 b9 e1 a9 b7 d0 J a6 a5;refine nm ?_;refine el 19 (some 211) d3 ?_;refine el 20 (some 212) d3 ?_;refine nm ?_;refine oD 21 fun Q E=>?_;refine aA tJ (.tmp 212) (.tmp 201) z F 4 101 z1 C z z HZ.1.1 HZ.1.2 Z.1 (by rw[<-HC.o];simp[fb,eD]) ?_;intro W5 k5 c5;have M:=O (EQ k5 c5);clear k5 c5;apply E _ _ nofun;clear E Q;refine oD 22 fun Q E=>?_
 go_simp;apply E _ _ nofun;clear E Q;refine oD 23 fun Q E=>?_;go_simp;apply E _ _ nofun;clear E Q;refine oD 24 fun Q E=>?_;go_simp;apply E _ _ nofun;clear E Q;refine oD 25 fun Q E=>?_;refine aA iL (.tmp 215) (.tmp 210) z F 12 101 z2 (C.set 4 z1) z z HZ.2.1 HZ.2.2 M.1 (by rw[<-HC.o];simp[fb,eD]) ?_;intro W6 k6 c6;have S:=O (EQ k6 c6);clear k6 c6;apply E _ _ nofun;clear E Q;try simp only[Gf]
 refine dn ?_;have hC:=HC.o;have hF:F<B:=G.lt.1;have a2:=G.lt;have d9:=G.f.fg;have e0:=G.f.fh;have e9:Hid (gg B F g h w j d bv {P with CX:=P.CX++[d.num],nh:=P.nh++[d.name]} (([v1,v2,.slice X K Y,v3,v4,v5,v6,v7,v0].set 2 z1).set 8 z2) D W6):=O ⟨((G.k.below a7.1).ch M.2).ch S.2,G.f.pc z (by have h1:=S.1;rw[<-hC]at h1;exact h1) ((S.2.FB (fun e=>d9 e.symm)).trans ((M.2.FB (fun e=>d9 e.symm)).trans a7.2.1)) ((S.2.FB (fun e=>e0 e.symm)).trans ((M.2.FB (fun e=>e0 e.symm)).trans a7.2.2)),by have h1:=(b8.ch M.2 (.inl hF)).ch S.2 (.inl hF);simpa [eW,cI,cS]using h1,S.2.CV (by omega) (M.2.CV (by omega) Z.2.1),by rw[S.o.2.size,M.o.2.size];exact⟨a2.1,a2.2.1,a2.2.2.1,a2.2.2.2.1,Z.2.1.lt⟩⟩
 have f0:=O (S.2.CV (by have:=a3.o;omega) (M.2.CV (by have:=a3.o;omega) Z.2.2));clear M S Z b8 a7 G b4 d8 A;go_wp2;apply f2;exact fQ e9 f0 HN (by rw[a4.o];decide) f1 ⟨z,z,z⟩ (O (HR.symm.trans ((so HN a4 b6).trans (by rw[a4.o,e6.o.symm];simp[eW]))))
theorem ze{B F h:Nat}{d:De}{bv:Fr}{P:Pg}{D:PF}(K:Hid (gg B F g h w j d bv P [v0,v1,v2,v8,v3,v4,v5,v6,v7] D W))(HX:Hid (ak W n0 104 [I d.kind,I 0]))(a3:Hid (mX W B j n0 [v0,v1,v2,v8,v3,v4,v5,v6,v7]))(c9:B<=n0/\n0≠j)(hn:ex D.L d.name=none)(hi:i<=1000)(f3:Hid (xN P 1000))(hk:d.kind=6)(hU:l2.length=237:=by rfl):FR prog (Jp 4 (f37.body.getD .skip)) (Gb prog f37 (xA B F g h D w (gl P D.L D.ce i d))) ⟨(Pt F::I i::u3::v9::u0::Pt j::u1::u2::Pt F::Pt n0::l2).toArray,[]⟩ W:=by
 revert l2;apply aN;iterate 237 intro _
 change FR _ _ _ _ _;have e3:prog.follows .mixedOrders=true:=by kernel_rfl
 have q0:W.cell? ⟨j,0,none⟩=some (.int .i64 d.kind):=K.o.d.cell 0;rw[hk]at q0;have q1:W.cell? ⟨j,1,none⟩=some (.int .i64 d.line):=K.o.d.cell 1;have q2:W.cell? ⟨j,2,none⟩=some (.int .i64 d.Dm):=K.o.d.cell 2;have q4:W.cell? ⟨j,4,none⟩=some (.int .i64 d.num):=K.o.d.cell 4;have HN:=O hn;have a8:=O c9;have e9:=O hi;have a9:=O hk;clear hn c9 hi;obtain⟨R,hR⟩:∃R,gl P D.L D.ce i d=R:=⟨_,rfl⟩;rw[hR];have HR:=O hR;clear hR;conv in (Jp _ _)=>whnf
 refine wk fun KK f0=>?_;obtain⟨J,M,f2,e5⟩:=(K.o.s.gr 3 (by decide)).form;obtain rfl:v8= .slice J ((eW P).getD 3 []).length M:=f2;obtain⟨E,b6⟩:∃n,((eW P).getD 3 []).length=n:=⟨_,rfl⟩;have e2:=O b6;rw[b6]at K a3;clear e5 b6;have f1:W.cell? ⟨F,5,none⟩=some (.slice J E M):=K.o.f.f.cell 5;go_wp2_with (first
  | ((with_reducible refine cY (.store 3 (.tmp 223) _) ?_);refine az dx rfl (.tmp 223) (.tmp 222) rfl n0 1 104 (I E) _ rfl rfl rfl rfl HX.o (by simp) ?_;intro W3 k3 c3;have d7:=O (K.o.ch c3 a8.o.1 a8.o.2 (fun k e=> (a3.o k _ e).2.2.1 rfl));have d0:Hid (ak W3 n0 104 [.int .i64 d.kind,.int .i64 (E:Int)]):=O k3;have d3:=O (a3.o.up (GB c3.size.symm));clear k3 c3 K HX a3 f1)
  |fail)
 obtain⟨H,hV⟩:∃H,W3.drew=H:=⟨_,rfl⟩;have G:Hid (gg B F g h w j d bv P [v0,v1,v2,.slice J E M,v3,v4,v5,v6,v7] D H):=O (by rw[<-hV];exact d7.o.below (FB _ _).drew);have b4:Hid (ak H n0 104 [I d.kind,I E]):=O (by rw[<-hV];exact d0.o.drew);have d6:Hid (mX H B j n0 [v0,v1,v2,.slice J E M,v3,v4,v5,v6,v7]):=O (by rw[<-hV];exact d3.o);clear d7 d0 d3;obtain⟨C,hC⟩:∃C,fb P [v0,v1,v2,.slice J E M,v3,v4,v5,v6,v7]++eD g h D=C:=⟨_,rfl⟩;have HC:=O hC;have A:Hid (ak H F 101 C/\ak H j 46 (dg d bv)):=O ⟨by rw[<-hC];exact G.o.f.f,G.o.d⟩;clear hC;obtain⟨i9,z9,e0,d5,d4,e1,c8,f7,f8,e7⟩:=zV;refine al [12] (fun W=>ak W F 101 C/\ak W j 46 (dg d bv)) e3 ?_;rw[hV];clear hV;refine tk 0 (some 224) A ?_
 refine tk 1 (some 225) A ?_;refine tk 2 (some 226) A ?_;refine tk 3 (some 227) A ?_;refine nm ?_;refine tf (fun Y=>Y.cell? ⟨F,5,none⟩=some (.slice J E M)) 4 (some 228) A (fun Y b7=> (b7.1.cell 5).trans (by rw[<-HC.o];rfl)) ?_;refine tk 5 (some 229) A ?_;refine tf (fun Y=>Y.cell? ⟨j,3,none⟩=some (.string d.name)) 6 (some 230) A (fun Y b7=>b7.2.cell 3) ?_;refine tk 7 (some 231) A ?_;refine nm ?_;refine oD 8 fun a1 f9=>?_;refine cF (.tmp 231) rfl e0 d5 d4 e1 c8 (by decide) (by decide) (.agg #[.string d.name,I 0,.slice none 0 0]) [.string d.name,I 0,.slice none 0 0] rfl rfl rfl ?_;intro Wb kb bb sb;have U:=O (EQ kb bb)
 have e4:Hid (ak Wb F 101 C/\ak Wb j 46 (dg d bv)):=O ⟨A.o.1.below bb,A.o.2.below bb⟩;clear kb bb sb;change a1 (Gf _ (some 232) _) Wb;refine f9 _ _ (fun _=>e4.o) ?_;clear f9 a1;refine nm ?_;refine oD 9 fun a1 f9=>?_;have d9:=G.o.lt;have a6:=d6.o;refine cw (jX 71 3) (.tmp 228) (.tmp 232) 25 rfl i9 z9 e0 d5 d4 e1 c8 (by decide) e7 B Wb (.slice J E M) _ rfl ((G.o.s.gr 3 (by decide)).below U.o.2) [.string d.name,I 0,.slice none 0 0] [.string d.name,I 0,.slice none 0 0] ⟨rfl,rfl,fun v hv=>by simp only[FQ,FO,or_false]at hv;rcases hv with rfl|rfl|rfl<;>rfl⟩ _ 71 U.o.1 rfl (FU (f3.o.1 3) (by decide)) (by have:=U.o.2.size;omega) ?_
 intro g1 k1 V d1 d2 b9 d8;have a0:∀c,c<H.1.size->(Gd J E M).ownBlock≠some c->V.1[c]? =H.1[c]? :=fun c X f6=> (b9 c (FJ X U.o.2.size) f6).trans (U.o.2.block c X);have b8:=O (G.o.s.set1 (by decide:3<9) d1 a0 (fun c X=>by
  cases X;rcases d8 with Q|Q
  .exact .inl Q
  .exact .inr (by rw[Q];exact U.o.2.size)))
 have a7:∀c,c<B->V.1[c]? =H.1[c]? :=fun c X=>a0 c (by omega) (fun e=>by have:=(a6 3 c e).1;omega);have S:Hid (ak V F 101 C/\ak V j 46 (dg d bv)/\ak V n0 104 [I d.kind,I E]):=O ⟨A.o.1.of (a7 F (by omega)),A.o.2.of (a0 j d9.2.2.2.2 (fun e=> (a6 3 _ e).2.1 rfl)),b4.o.of (a0 n0 b4.o.lt (fun e=> (a6 3 _ e).2.2.1 rfl))⟩;have a5:=O (EQ ((U.o.2.mono (by omega)).trans d2) (EQ (a7 g (by omega)) (a7 h (by omega))));obtain⟨Z,a4⟩:∃z,Gd (some ⟨g1,0,none⟩) (((eW P).getD 3 []).length+1) k1=z:=⟨_,rfl⟩;have HZ:Hid (Z.cells= #[Z]/\Z.oneCell'=true):=O (by rw[<-a4];exact⟨rfl,rfl⟩);rw[a4]at b8;rw[a4];have b5:=O (EQ S.o.1 S.o.2.1);change a1 (Gf _ (some 233) _) V;refine f9 _ _ (fun _=>b5.o) ?_
 clear f9 a1 d1 d2 b9 d8 a0 a7 d9 a6 a4;refine nm ?_;refine tk 10 (some 234) b5 ?_;refine tk 11 (some 235) b5 ?_;refine nm ?_;refine dG 12 (by kernel_rfl) rfl rfl rfl rfl yv (.tmp 235) (.tmp 233) rfl F 5 101 Z C rfl rfl HZ.o.1 HZ.o.2 S.o.1 (by rw[<-HC.o];simp[fb,eD]) ?_;intro W6 k6 c6;have N:=O (EQ k6 c6);clear k6 c6;try simp only[Gf]
 refine dn ?_;have hC:=HC.o;have hF:F<B:=G.o.lt.1;have a2:=G.o.lt;have f4:=G.o.f.fg;have f5:=G.o.f.fh;have e6:Hid (gg B F g h w j d bv {P with threads:=P.threads++[Th.mk d.name 0 []]} ([v0,v1,v2,.slice J E M,v3,v4,v5,v6,v7].set 3 Z) D W6):=O ⟨(G.o.k.below a5.o.1).ch N.o.2,G.o.f.pc rfl (by have Q:=N.o.1;rw[<-hC]at Q;exact Q) ((N.o.2.FB (fun e=>f4 e.symm)).trans a5.o.2.1) ((N.o.2.FB (fun e=>f5 e.symm)).trans a5.o.2.2),by have Q:=b8.o.ch N.o.2 (.inl hF);simpa [eW,cT,bV]using Q,N.o.2.CV (by omega) S.o.2.1,by rw[N.o.2.size];exact⟨a2.1,a2.2.1,a2.2.2.1,a2.2.2.2.1,S.o.2.1.lt⟩⟩;have e8:=O (N.o.2.CV (by have:=a8.o;omega) S.o.2.2);clear N S b8 a5 G b4 d6 A;go_wp2_with fail;refine f0.o _ _ ?_
 exact fQ e6 e8 HN.o (by rw[a9.o];decide) e9.o ⟨rfl,rfl,rfl⟩ (O (HR.o.symm.trans ((uz HN.o a9.o).trans (by rw[a9.o,e2.o.symm];simp[eW]))))
theorem ut{B F h:Nat}{P:Pg}{vs:List Fr}{D:PF}(d:De)(bv:Fr)(i:Nat)(H:Fi w F g h (fb P vs) D)(hG:Gs B w vs (eW P))(a3:F<B/\g<B/\h<B/\B<=w.1.size)(b9:bv.oneCell'=true)(j:1<=d.kind/\d.kind<=6)(a6:d.kind=1->-2147483648<=d.num/\d.num<=2147483647)(b6:0<=D.ce/\D.ce<=256)(hi:i<=1000)(a5:xN P 1000):
  Jq prog 37 #[Pt F,I i,.agg (dg d bv).toArray] w (xA B F g h D w (gl P D.L D.ce i d)):=by
 obtain⟨i4,z4,a8,b8,b5⟩:=eR;have c8:prog.follows .mixedOrders=true:=by kernel_rfl
 obtain⟨v0,v1,v2,v3,v4,v5,v6,Z,v8,rfl⟩:=Bd hG.len.1;have X:=O a5;have G:=O (EQ H (EQ hG a3));have c9:=O (EQ j a6);have d0:=O b6;have Q:=O hi;have d6:=O (iu d b9);obtain⟨r,hr⟩:=eX (ex D.L d.name);have A:=O hr;clear a5 H hG a3 j a6 b6 hi b9 hr;go_in;obtain⟨C,a0⟩:∃b,w.1.size=b:=⟨_,z⟩;refine wk fun K E=>?_;go_wp2_with (first
  | (with_reducible refine cp 5 (.box 46 _) ?_;refine aJ z (.tmp 2) z (dg d bv) z C a0 ?_;intro M k1 b1 d1;have K1:=O k1;have B1:=O b1;clear k1 b1)
 )
 refine E.o _ _ ?_;clear E K;have a9:Hid (gg B F g h w C d bv P [v0,v1,v2,v3,v4,v5,v6,Z,v8] D M):=O ⟨(mN.refl B F g w).below (B1.o.mono G.o.2.2.2.2.2),G.o.1.up B1.o,G.o.2.1.below B1.o,K1.o,G.o.2.2.1,G.o.2.2.2.1,G.o.2.2.2.2.1,by rw[<-a0];exact G.o.2.2.2.2.2,K1.o.lt⟩;have d4:Hid (∀k x,([v0,v1,v2,v3,v4,v5,v6,Z,v8].getD k bV).ownBlock=some x->B<=x/\x<C):=O fun k x hx=>by have:=G.o.2.1.lt hx;rw[a0]at this;exact this
 clear K1 B1 d1 G a0;refine wk fun K E=>?_;obtain⟨a1,hV⟩:=eX (M.drew);have Y:Hid (gg B F g h w C d bv P [v0,v1,v2,v3,v4,v5,v6,Z,v8] D a1):=O (by rw[<-hV];exact a9.o.below (FB _ _).drew);clear a9;go_wp2_with fail;refine al [] (fun W=>gg B F g h w C d bv P [v0,v1,v2,v3,v4,v5,v6,Z,v8] D W) c8 ?_;rw[hV];clear hV;refine ke 0 ?_;refine fK _ 3 (fun M U=>U.f.c13) ?_;refine nm ?_;refine fa 4 ?_;refine tf (fun M=>M.cell? ⟨C,3,none⟩=some (.string d.name)) 5 (some 16) Y (fun M U=>U.d.cell 3) ?_;refine aM 6 (some 17) (v:=?_) z z (by kernel_rfl) (fun _ _ _ h=>h) Y.o (GJ ⟨by rfl,?_⟩) ?_;rotate_left
 .intro M U;have d5:=jG U.f.m d.name;rw[mr,A.o]at d5;clear U;go_simp;first|with_reducible rfl|rw[am (by omega)]
 refine fa 7 ?_;refine nm ?_;refine nk 8 ?_;refine nm ?_;refine oD 10 fun a2 hK=>?_;obtain⟨bN,a4⟩:∃b,a1.1.size=b:=⟨_,z⟩;refine aw a8 b8 b5 z bN a4 ?_;intro V2 j hb z2;have b7:=O (Y.o.below hb);have KB:=O (EQ j (EQ hb a4));refine hK _ _ (fun _=>b7.o) ?_;clear hK a2 j hb;refine nm ?_;refine oD 11 fun a2 hK=>?_;refine an bY (.tmp 6) (.tmp 18) z bN [I (xH r),I (xM r)] _ z z KB.o.1 z ⟨z,by simp[GZ]⟩ ?_;intro V3 k3 c3;have J:=O (Y.o.below (c3.below (by rw[KB.o.2.2];omega) KB.o.2.1));refine hK _ _ (fun _=>J.o) ?_;clear hK a2 k3 c3 b7 KB Y a4 z2;refine fa 12 ?_;refine nm ?_;refine dn ?_;rcases r with _|x;rotate_left
 .have q1:V3.cell? ⟨C,1,none⟩=some (.int .i64 d.line):=J.o.d.cell 1;have q2:V3.cell? ⟨C,2,none⟩=some (.int .i64 d.Dm):=J.o.d.cell 2;go_wp2_with fail;rw[nT A.o];exact⟨z,J.o.k,z⟩
 go_wp2_with fail;refine E.o _ _ ?_;clear E K;refine wk fun K E=>?_;go_wp2_with fail;refine E.o _ _ ?_;clear E K;have q0:V3.cell? ⟨C,0,none⟩=some (.int .i64 d.kind):=J.o.d.cell 0;obtain⟨bX,a7⟩:=eX (V3.1.size);refine wk fun K E=>?_;go_wp2_with (first
  | (with_reducible refine cp 9 (.alloc 104) ?_;refine ag a8 b8 b5 z z bX a7 ?_;intro V4 k4 b4 s4;have K4:=O k4;have B4:=O b4;clear k4 b4)
  | (with_reducible refine s0 104 ?_;refine af bY z (.tmp 9) (.tmp 30) z bX [I d.kind,I 0] _ z z K4.o z ⟨z,by simp[GZ]⟩ ?_;intro V5 k5 c5;have K5:=O (EQ k5 c5);clear k5 c5)
 )
 refine E.o _ _ ?_;clear E K;have N:=O (J.o.below (K5.o.2.below (by rw[a7];omega) B4.o));have a3:=J.o.lt;have S:Hid (mX V5 B C bX [v0,v1,v2,v3,v4,v5,v6,Z,v8]):=O fun k x hx=>by have h1:=d4.o k x hx;have h2:=N.o.lt;exact⟨h1.1,by omega,by omega,by omega⟩
 have V:B<=bX/\bX≠C:=by omega
 have d2:=c9.o;have d3:d.kind=1∨d.kind=2∨d.kind=3∨d.kind=4∨d.kind=5∨d.kind=6:=by omega
 have R:=O K5.o.1;rcases d3 with j|j|j|j|j|j
 .exact yB N R S V A.o Q.o X j (d2.2 j)
 .exact yR N R S V A.o Q.o X j d0.o
 .exact zu N R S V A.o Q.o X j
 .exact zc N R S V A.o Q.o X j
 .exact yK N R S V A.o Q.o X j
 .exact ze N R S V A.o Q.o X j
def mM:List De->Nat
 | []=>0
 |d::r=> (if d.kind=6 then 1 else 0)+mM r
theorem rD(L:List Nm)(n:Nat)(d:De)(r:List De):gS L n (d::r)=if d.kind=6 then (match cb L 0 n 0 d.body with
  | .error e=> .error e
  | .ok q=>gn (fun p=> ((q.1,q.2.2)::p.1,p.2)) (gS L q.2.1 r)) else gS L n r:=by
 rw[gS]
 split
 .cases cb L 0 n 0 d.body with
  |error e=>rfl
  |ok q=>
   let ⟨b,n2,mo⟩:=q
   simp only
   cases gS L n2 r<;>rfl
 .rfl
theorem fP:∀ (l:List Th) (q:List (List St×Nat)),(df l q).length=l.length
 | [],[]=>rfl
 | [],_::_=>rfl
 |_::_,[]=>rfl
 |t::r,(b,mo)::q=>by
  show (df r q).length+1=r.length+1
  rw[fP r q]
theorem he(l:List Th):df l []=l:=by cases l<;>rfl
theorem la:∀ (l:List Th) (q:List (List St×Nat)) (b:List St) (mo:Nat),q.length<l.length->df l (q++[(b,mo)])=(df l q).set q.length ⟨((df l q).getD q.length default).name,mo,b⟩
 | [],q,b,mo,h=>by simp at h
 |t::r,[],b,mo,_=>by
  show ⟨t.name,mo,b⟩::df r []=_
  rw[he,he]
  rfl
 |t::r,(b2,m2)::q,b,mo,h=>by
  show ⟨t.name,m2,b2⟩::df r (q++[(b,mo)])=_
  rw[la r q b mo (by simpa using h)]
  rfl
def oi(B gt:Nat)(W:Fk)(C:List Fr)(ts:List Th):Prop:=∀j x,ts[j]? =some x->∃cs,Th.L (fun c=> (B<=c/\c≠gt)/\c<W.1.size) W cs x/\∀t,t<3->C[j*3+t]? =cs[t]?
theorem oi.keep{B:Nat}{C:List Fr}{E:List Th}(h:oi B g w C E)(J:∀c,B<=c->c≠g->c<w.1.size->W.1[c]? =w.1[c]?)(M:w.1.size<=W.1.size):oi B g W C E:=fun j x H=>by
 let ⟨cs,K,G⟩:=h j x H
 exact⟨cs,gh.CQ (fun c D=>⟨D.1,FJ D.2 M⟩) (gh.keep (fun b o u A F=>by rw[<-F];simp[World.cell?,J b A.1.1 A.1.2 A.2]) K),G⟩
theorem oi.set{B sl:Nat}{C:List Fr}{w:List Th}(h:oi B g W C w)(N:w.length*3<=C.length)(E:sl<w.length){b:List St}{mo:Nat}(H:aF b.length c/\aE (fun c=> (B<=c/\c≠g)/\c<W.1.size) W a 0 b):
  oi B g W ((C.set (sl*3+2) (.slice a b.length c)).set (sl*3+1) (I mo)) (w.set sl ⟨(w.getD sl default).name,mo,b⟩):=fun j x A=>by
 have M:j<w.length:=by have:=(FW.1 A).1;simpa using this
 by_cases e:sl=j
 .subst e;rw[Hj E]at A;cases A;let ⟨cs,G,F⟩:=h sl w[sl] (FC E)
  obtain⟨Q,c0,rfl,-⟩:=G;have J:w.getD sl default=w[sl]:=by rw[FD,FC E];rfl
  refine⟨[.string (w.getD sl default).name,I mo,.slice a b.length c],⟨a,c,z,H⟩,fun t D=>?_⟩;have K:=F t D;rcases t with _|_|_|t
  .rw[Ge (by omega),Ge (by omega),K,J];rfl
  .rw[Hj (by simp;omega)];rfl
  .rw[Ge (by omega),Hj (by omega)];rfl
  .omega
 .rw[Ge e]at A;let ⟨cs,G,F⟩:=h j x A
  exact⟨cs,G,fun t D=>by rw[Ge (by omega),Ge (by omega)];exact F t D⟩
structure Bo (w0 w:Fk) (B F g h gt:Nat) (P:Pg) (vs:List Fr) (D:PF) (C:List Fr) (ts:List Th) (W:Fk):Prop where
 k:mN B F g w W
 f:Fi W F g h (fb P vs) D
 t:ak W gt 71 C
 a:oi B gt W C ts
 ln:ts.length*3<=C.length
 o:∀k,k<9->k≠3->aL (jX (uA k).1 (uA k).2) B W (vs.getD k bV) ((eW P).getD k [])/\(vs.getD k bV).ownBlock≠some gt
 b:FM w0.1.size w0 W
 lt:(F<B/\g<B/\h<B/\B<=gt)/\w0.1.size<=F/\w0.1.size<=g
section
variable {w0 w W W':Fk} {B F g h gt:Nat} {P:Pg} {vs:List Fr} {D D':PF} {C C':List Fr} {ts ts':List Th}
theorem Bo.call(H:Bo w0 w B F g h gt P vs D C ts W)(j:Kp W W' F g)(N:Fi W' F g h (fb P vs) D'):Bo w0 w B F g h gt P vs D' C ts W':=by have M:=H.lt;have R:=H.t.lt;refine⟨⟨j.os.trans H.k.os,j.tape.trans H.k.tape,j.output.trans H.k.output,FU H.k.size j.size,fun c A E G=> (j.block c (by omega) E G).trans (H.k.block c A E G)⟩,N,H.t.kp j (by omega) (by omega),H.a.keep (fun c Q _ A=>j.block c A (by omega) (by omega)) j.size,H.ln,fun k J K=>⟨(H.o k J K).1.kp j (by omega) (by omega),(H.o k J K).2⟩,j.Dx H.b H.b.size M.2.1 M.2.2,H.lt⟩
theorem Bo.below(H:Bo w0 w B F g h gt P vs D C ts W)(j:bL W W'):Bo w0 w B F g h gt P vs D C ts W':=H.call (Kp.below j) (H.f.up j)
theorem Bo.Dc(H:Bo w0 w B F g h gt P vs D C ts W)(J:ak W' F 101 ((fb P vs++eD g h D).set (13+j) v))(A:Ch F W W')(E:D'.L=D.L)(G:(eD g h D).set j v=eD g h D'):Bo w0 w B F g h gt P vs D' C ts W':=H.call A.Fe (H.f.setC J A E G)
theorem Ch.ED{w':Fk}(h:Ch b w w'):iz b w w':=⟨h.kp.os,h.kp.tape,h.kp.output,h.size,fun _ j=>h.FB j⟩
theorem iz.tr(A:iz b w1 w2)(j:iz b w2 V):iz b w1 V:=⟨j.os.trans A.os,j.tape.trans A.tape,j.output.trans A.output,j.size.trans A.size,fun k E=> (j.block k E).trans (A.block k E)⟩
theorem Bo.Ej(H:Bo w0 w B F g h gt P vs D C ts W)(K:ak W' gt 71 C')(j:iz gt W W')(J:oi B gt W C' ts')(G:ts'.length*3<=C'.length):Bo w0 w B F g h gt P vs D C' ts' W':=by have M:=H.lt;exact⟨H.k.below (j.below M.1.2.2.2 (FB _ _)),H.f.of (j.block _ (by omega)) (j.block _ (by omega)) (j.block _ (by omega)),K,J.keep (fun c _ N _=>j.block c N) (GB j.size.symm),G,fun k A E=>⟨aL.flat (dw _ _) (H.o k A E).1 fun c Q=>j.block c fun e=> (H.o k A E).2 (e▸Q),(H.o k A E).2⟩,j.below (by omega) H.b,H.lt⟩
end
theorem eH:(prog.info? 46).map (·.size)=some 6:=by kernel_rfl
theorem lb:∃d,prog.underlying 46=some d/\d.isRow=true:=by
 have h:(prog.underlying 46).map (·.isRow)=some true:=by kernel_rfl
 let ⟨d,j,g⟩:=Option.map_eq_some_iff.1 h
 exact⟨d,j,g⟩
theorem qa:∃i z,prog.info? 46=some i/\i.zero=some z/\z.cells=([I 0,I 0,I 0,.string ⟨#[]⟩,I 0,.slice none 0 0]:List Fr).toArray:=fH (by kernel_rfl)
theorem yX:(prog.info? 44).map (·.size)=some 1:=by kernel_rfl
def Cu(w0 w:Fk)(B F g h gt:Nat)(P:Pg)(vs:List Fr)(D:PF)(R:Except fT (List (List St×Nat)×Nat))(e:Ending)(w':Fk):Prop:=mN B F g w w'/\match R with
 | .error f=>e= .panicked [dd f]
 | .ok (bs,n)=>e= .returned (.tuple #[])/\∃mo C,Bo w0 w B F g h gt P vs {D with n:=n,mo:=mo} C (df P.threads bs) w'
theorem sB{B F h:Nat}{P:Pg}{vs:List Fr}{D:PF}(l:List De)(a:Option Addr)(cap:Nat)(d0:aF l.length cap)(f0:cQ (fun _=>True) w0 a l)(H:Bo w0 w B F g h n0 P vs D l2 P.threads w)(e7:vs.getD 3 bV= .slice (some ⟨n0,0,none⟩) n5 n6)(f6:n5=P.threads.length)(hI:D.loc=0/\D.n<=512)(a7:∀d∈l,St.DO d.body)(e5:P.threads.length=mM l/\mM l<=1000):
  Jq prog 38 #[Pt F,.slice a l.length cap] w (Cu w0 w B F g h n0 P vs D (gS D.L D.n l)):=by
 obtain⟨i6,z6,f2,f1,f4⟩:=qa;obtain⟨g8,f5,f7⟩:=lb;obtain⟨S,hN⟩:∃S,l.length=S:=⟨_,z⟩;rw[hN]at d0 ⊢;have HN:=O hN;have f9:=O fun _:True=>d0;have h7:=O f0;have HH:=O H;have e1:=O (EQ e7 f6);have HI:=O hI;have i1:=O a7;have h0:=O e5;obtain⟨R,hR⟩:∃R,gS D.L D.n l=R:=⟨_,z⟩;rw[hR];have HR:=O hR;clear hN d0 f0 H e7 f6 hI a7 e5 hR;go_enter func38,ntmps38;refine wk fun KK f3=>?_;go_wp2_with fail;refine f3.o _ _ ?_;clear f3 KK;go_wp2_with fail
 go_loopg [4,10] S (fun x sv iv wr=>∃ (i sl:Nat) (A:PF) (C:List Fr) (pre:List (List St×Nat)),i<=S/\x=S-i/\iv=I i/\sv=I sl/\Hid (pre.length=sl/\sl+mM (l.drop i)=P.threads.length)/\Hid (Bo w0 w B F g h n0 P vs A C (df P.threads pre) wr)/\Hid (A.L=D.L/\A.loc=D.loc/\A.ce=D.ce/\A.n<=512)/\Hid (R=gn (fun q=> (pre++q.1,q.2)) (gS D.L A.n (l.drop i))));case atStart=>exact⟨0,0,D,l2,[],FX _,z,z,z,O ⟨z,by rw[GD,GE];exact h0.o.1.symm⟩,O (by rw[he];exact HH.o),O ⟨z,z,z,HI.o.2⟩,O (by rw[<-HR.o];cases h:gS D.L D.n l<;>simp[gn,h])⟩
 case round=>
  clear HH HR;obtain⟨i,sl,A,C,pre,hi,rfl,rfl,rfl,f8,V,G,d5⟩:=hrel;by_cases b5:i<S
  .have j1:(i:Int)< (S:Int):=by omega
   have i5:(0:Int)<=(i:Int):=by omega
   have e4:Hid (wrap64 ((i:Int)+1)=((i+1:Nat):Int)):=O (by have K:=(f9.o trivial).1;have h2:=(f9.o trivial).2;have:=Gi ((i:Int)+1) (by omega);rw[this];omega)
   obtain⟨b2,d6,dc,rfl,-,e8,h8⟩:=h7.o i (by rw[HN.o];exact b5);have g1:l.getD i default∈l:=by rw[FD,FC (by rw[HN.o];exact b5)];exact Gy _
   have d2:l.drop i=l.getD i default::l.drop (i+1):=by rw[FZ (by rw[HN.o];exact b5),FD,FC (by rw[HN.o];exact b5)];rfl
   have J:=d5.o;have a1:=f8.o;rw[d2,rD]at J;rw[d2]at a1;have a7:=i1.o _ g1;generalize l.getD i default=d at *;obtain⟨Z,a0,rfl,g5,g9⟩:=h8;have d9:=O J;have a2:Hid (pre.length=sl/\sl+((if d.kind=6 then 1 else 0)+mM (l.drop (i+1)))=P.threads.length):=O a1;have h9:=O a7;have g2:=O (EQ g5 g9);have e2:Hid (wr.rangeAt b2 (d6+i*6) (dg d (.slice Z d.body.length a0))):=O fun t v hv=>ai V.o.b _ _ _ (by simpa using e8 t v hv);obtain⟨U,b7⟩:∃b,wr.1.size=b:=⟨_,z⟩;have b8:Hid (n0<U/\wr.1.size=U):=O ⟨by rw[<-b7];exact V.o.t.lt,b7⟩;obtain⟨BN,e0⟩:∃n,d.body.length=n:=⟨_,z⟩;have i0:=O e0;rw[e0]at e2;clear J a1 e8 g5 g9 d2 g1 d5 f8 a7 e0;by_cases a9:d.kind=6
   .go_wp2_with (first
     | ((with_reducible refine cp 13 (.load 46 _) ?_);refine Gn z 46 (.tmp 12) z b2 (d6+i*6) z (dg d (.slice Z BN a0)) g8 e2.o f5 f7 eH ?_)
     | ((with_reducible refine cp 6 (.alloc 46) ?_);refine ag f2 f1 f4 z z U b7 ?_;intro W4 k4 b4 s4;have K4:=O k4;have B4:=O b4;clear k4 b4)
     | ((with_reducible refine cY (.store 46 (.tmp 6) _) ?_);refine af eH z (.tmp 6) (.tmp 13) z U (dg d (.slice Z BN a0)) _ z z K4.o z (iu d z) ?_;intro W5 k5 c5;have a4:=O (V.o.below (c5.below (by rw[b8.o.2];exact FL _) B4.o));have a5:=O k5;have q0:W5.cell? ⟨U,0,none⟩=some (I d.kind):=a5.o.cell 0;clear k5 c5 K4 B4 s4 V)
     | ((with_reducible refine cY (.store 3 (.tmp 19) _) ?_);refine az dx z (.tmp 19) (.const (I 0)) z F 18 101 (I 0) _ z z z z a4.o.f.f (by simp[fb,eD]) ?_;intro W6 k6 c6;have Y:=O (a4.o.Dc (j:=5) (D':={A with mo:=0}) k6 c6 z z);have d4:=O (c6.CV (by have:=b8.o;have:=a4.o.lt;omega) a5.o);have q5:W6.cell? ⟨U,5,none⟩=some (.slice Z BN a0):=d4.o.cell 5;clear k6 c6 a4 a5 q0)
     |fail)
    have d8:=sf (w0:=w0) (F:=F) (g:=g) (h:=h) (fc:=fb P vs) Y.o.lt.2 d.body h9.o {A with mo:=0} Z a0 W6 g2.o.1 g2.o.2 Y.o.b Y.o.f ⟨by show A.loc<=32;rw[G.o.2.1,HI.o.1];decide,G.o.2.2.2⟩;rw[i0.o]at d8;refine d8.mono ?_;clear d8 q5;rintro e W7 ⟨d3,hm⟩;obtain⟨r,hr⟩:∃r,cb D.L 0 A.n 0 d.body=r:=⟨_,z⟩;have J:=d9.o;rw[aD a9,hr]at J;simp only at hm;rw[G.o.1,G.o.2.1,HI.o.1,hr]at hm;rcases r with er|⟨b',n2,Q⟩
    .obtain⟨rfl,n3,i8,hf⟩:=hm;have hq:R= .error er:=J;rw[hq];exact⟨z,(Y.o.call d3 hf).k,z⟩
    obtain⟨hf,a3,b9,rfl,g6,g3⟩:=hm;have h5:=O (kL d.body D.L 0 A.n 0 b' n2 Q hr G.o.2.2.2);have h6:=O J;have g4:=O (Y.o.call d3 hf);have d7:Hid (aF b'.length b9/\aE (fun c=> (B<=c/\c≠n0)/\c<W7.1.size) W7 a3 0 b'):=O ⟨g6,(aE.bound g3).CQ fun c hc=>by have i7:W6.1.size<=c:=hc.1;have K:=d4.o.lt;have h2:=b8.o;have h3:=Y.o.lt;exact⟨by omega,hc.2⟩⟩;clear J hr d3 hf g6 g3 d9;have e6:sl<P.threads.length:=by have:=a2.o.2;rw[aD a9]at this;omega
    have i4:(0:Int)<=(sl:Int):=by omega
    have i9:(sl:Int)< (n5:Int):=by rw[e1.o.2];omega
    have g7:(sl:Int)+1<=100000:=by have:=h0.o;omega
    have a8:=O (EQ e6 g7);clear e6 g7;obtain⟨a6,hV⟩:∃a6,W7.drew=a6:=⟨_,z⟩;have X:Hid (Bo w0 w B F g h n0 P vs {A with n:=n2,mo:=Q} C (df P.threads pre) a6):=O (by rw[<-hV,G.o.1,G.o.2.1,HI.o.1];exact g4.o.below (FB _ _).drew);have e9:Hid (aF b'.length b9/\aE (fun c=> (B<=c/\c≠n0)/\c<a6.1.size) a6 a3 0 b'):=O (by rw[<-hV];exact⟨d7.o.1,d7.o.2.keep fun b o u _ hu=>ai (FB _ W7).drew b o u hu⟩);obtain⟨bo,b6⟩:∃v,Gd a3 b'.length b9=v:=⟨_,z⟩;have d1:Hid (Gd a3 b'.length b9=bo/\bo.cells= #[bo]/\bo.oneCell'=true):=O ⟨b6,by rw[<-b6];exact⟨z,z⟩⟩;rw[b6];have E:=O X.o.f.f;clear g4 d7 Y d4 b6;have h4:prog.follows .mixedOrders=true:=by kernel_rfl
    go_wp2_with fail;refine al [11,19,20,21,22] (fun W=>ak W F 101 (fb P vs++eD g h {A with n:=n2,mo:=Q})) h4 ?_;rw[hV];clear hV;refine ck 11 (some 35) (v:=?_) z z (by kernel_rfl) (fun _ _ _ h=>h) (GJ ⟨by rfl,?_⟩) ?_;rotate_left
    .intro N M;clear M;go_simp;first|with_reducible rfl|rw[am (by omega)]
    refine el 0 (some 24) E ?_;refine el 1 (some 25) E ?_;refine el 2 (some 26) E ?_;refine nm ?_;refine el 3 (some 27) E ?_;refine ld (fun N=>N.cell? ⟨F,5,none⟩=some (.slice (some ⟨n0,0,none⟩) n5 n6)) 4 (some 28) E (fun N M=> (M.cell 5).trans (congrArg some e1.o.1)) ?_;refine el 5 (some 29) E ?_;refine el 6 (some 30) E ?_;refine nm ?_;refine el 7 (some 31) E ?_;refine el 8 (some 32) E ?_;refine el 9 (some 33) E ?_;refine ld (fun N=>N.cell? ⟨F,5,none⟩=some (.slice (some ⟨n0,0,none⟩) n5 n6)) 10 (some 34) E (fun N M=> (M.cell 5).trans (congrArg some e1.o.1)) ?_;refine nm ?_;refine el 12 (some 36) E ?_;refine el 13 (some 37) E ?_;refine el 14 (some 38) E ?_
    refine el 15 (some 39) E ?_;refine nm ?_;refine ld (fun N=>N.cell? ⟨F,18,none⟩=some (.int .i64 (Q:Int))) 16 (some 40) E (fun N M=>M.cell 18) ?_;refine el 17 (some 41) E ?_;refine el 18 (some 42) E ?_;refine nm ?_;refine dG 19 (by kernel_rfl) z z z z yX (.tmp 42) (.tmp 36) z n0 (sl*3+2) 71 bo C (by first|rfl|simp[Act.eval]) z d1.o.2.1 d1.o.2.2 X.o.t (by have K:=X.o.ln;rw[fP]at K;have:=a8.o.1;omega) ?_;intro W8 k8 c8;have K8:=O (EQ k8 c8);clear k8 c8;refine ck 20 (some 43) (v:=?_) z z (by kernel_rfl) (fun _ _ _ h=>h) (GJ ⟨by rfl,?_⟩) ?_;rotate_left
    .intro N M;clear M;go_simp;first|with_reducible rfl|rw[am (by omega)]
    refine ck 21 (some 44) (v:=?_) z z (by kernel_rfl) (fun _ _ _ h=>h) (GJ ⟨by rfl,?_⟩) ?_;rotate_left
    .intro N M;clear M;go_simp;first|with_reducible rfl|rw[am (by omega)]
    refine nm ?_;refine dG 22 (by kernel_rfl) z z z z dx (.tmp 44) (.tmp 40) z n0 (sl*3+1) 71 (I Q) (C.set (sl*3+2) bo) (by first|rfl|simp[Act.eval]) z z z K8.o.1 (by have K:=X.o.ln;rw[fP]at K;have:=a8.o.1;simp;omega) ?_;intro W9 k9 c9;have K9:=O (EQ k9 c9);clear k9 c9;try simp only[Gf]
    refine dn ?_;have i2:Hid (Bo w0 w B F g h n0 P vs {A with n:=n2,mo:=Q} ((C.set (sl*3+2) bo).set (sl*3+1) (I Q)) (df P.threads (pre++[(b',Q)])) W9):=O (by
     have e3:=X.o.ln;have i3:sl< (df P.threads pre).length:=by rw[fP];exact a8.o.1
     have K:=X.o.a.set e3 i3 (mo:=Q) e9.o;rw[d1.o.1]at K;rw[la _ _ _ _ (by rw[a2.o.1];exact a8.o.1),a2.o.1];refine X.o.Ej K9.o.1 (K8.o.2.ED.tr K9.o.2.ED) K ?_;simp only[List.length_set];exact e3)
    clear K8 K9 X e9 E;go_wp2_with fail;go_roundg (S- (i+1));case measure=>omega
    case rel=>
     refine⟨i+1,sl+1,{A with n:=n2,mo:=Q},_,pre++[(b',Q)],by omega,z,congrArg (Gr .i64) e4.o,?_,O ⟨by simp[a2.o.1],by have:=a2.o.2;rw[aD a9]at this;omega⟩,i2,O ⟨G.o.1,G.o.2.1,G.o.2.2.1,h5.o⟩,O ?_⟩
     .have:=a8.o;exact congrArg (Gr .i64) (by first|omega|exact(Gi _ (by omega)).trans (by omega))
     .rw[h6.o,ha];congr 1;funext q;simp
   .go_wp2_with (first
     | ((with_reducible refine cp 13 (.load 46 _) ?_);refine Gn z 46 (.tmp 12) z b2 (d6+i*6) z (dg d (.slice Z BN a0)) g8 e2.o f5 f7 eH ?_)
     | ((with_reducible refine cp 6 (.alloc 46) ?_);refine ag f2 f1 f4 z z U b7 ?_;intro W4 k4 b4 s4;have K4:=O k4;have B4:=O b4;clear k4 b4)
     | ((with_reducible refine cY (.store 46 (.tmp 6) _) ?_);refine af eH z (.tmp 6) (.tmp 13) z U (dg d (.slice Z BN a0)) _ z z K4.o z (iu d z) ?_;intro W5 k5 c5;have a4:=O (V.o.below (c5.below (by rw[b8.o.2];exact FL _) B4.o));have a5:=O k5;have q0:W5.cell? ⟨U,0,none⟩=some (I d.kind):=a5.o.cell 0;clear k5 c5 K4 B4 s4 V)
     |fail)
    go_roundg (S- (i+1));case measure=>omega
    case rel=> have J:=d9.o;rw[am a9]at J;have a1:=a2.o;rw[am a9,GE]at a1;exact⟨i+1,sl,A,C,pre,by omega,z,congrArg (Gr .i64) e4,z,O a1,a4,G,O J⟩
  .obtain rfl:i=S:=by omega
   have j0:¬ (i:Int)< (i:Int):=by omega
   have hQ:=d5.o;rw[<-HN.o,Hn,gS]at hQ;have HQ:=O (show R= .ok (pre,A.n) by rw[hQ];simp[gn]);clear hQ;go_wp2;go_end0;rw[HQ.o];refine⟨V.k,z,A.mo,C,?_⟩;have hd:A={D with n:=A.n,mo:=A.mo}:=by obtain⟨K,h2,h3,-⟩:=G.o;cases A;simp only at K h2 h3;rw[K,h2,h3]
   rw[<-hd];exact V
theorem fw{j:List MapEntry}(h:w.1[g]? =some (.map j.toArray n))(k:Int)(v:Fr)(D:Hc (.int .i64) (I k) j 0=some none):
  ∃W,(HJ 98 (.map (some g)) (I k) v).run prog w= .ok () W/\W.1[g]? =some (.map (j++[(⟨I k,v,n⟩:MapEntry)]).toArray (n+1))/\iz g w W:=by
 have A:GQ (.int .i64) (I k):=by simp[GQ]
 have C:Hc (.int .i64) (I k) j.toArray.toList 0=some none:=by simpa using D
 refine⟨{w with heap:=w.1.setIfInBounds g (.map (j++[(⟨I k,v,n⟩:MapEntry)]).toArray (n+1))},?_,(MapKept.heap_set h).1,jP h⟩;simp[HJ,run_underlying mp,MapKept.run_getObj_map h,MapKept.run_checkKey hi A,MapKept.run_findKey hi C,MapKept.run_setObj_map _ h,Result.andThen]
theorem pz(w:Fk):Jq prog 36 #[] w fun e w'=>∃g,e= .returned (.map (some g))/\w.1.size<=g/\w'.1[g]? =some (.map gA.toArray 10)/\bL w w':=by
 obtain⟨g,j⟩:=eX (w.1.size);obtain⟨C,A⟩:=eX (w.alloc (.map #[] 0));have d2:(Instr.makeMap 98 none).run prog w= .ok (.map (some g)) C:=by rw[<-j,<-A];kernel_rfl
 have a1:bL w C:=by rw[<-A];exact(FB _ w).alloc rl _
 have D:C.1[g]? =some (.map ([]:List MapEntry).toArray 0):=by rw[<-A,<-j];exact Df _ _
 obtain⟨W1,d3,M,U⟩:=fw D 2 (.agg #[I 1,I 0,.bool true,.bool false]) (by rfl);obtain⟨W2,c9,b8,N⟩:=fw M 3 (.agg #[I 2,I 0,.bool false,.bool false]) (by rfl);obtain⟨W3,d6,b4,a7⟩:=fw b8 6 (.agg #[I 3,I 0,.bool false,.bool false]) (by rfl);obtain⟨W4,d7,Z,b7⟩:=fw b4 7 (.agg #[I 3,I 0,.bool false,.bool false]) (by rfl);obtain⟨W5,d1,b5,G⟩:=fw Z 8 (.agg #[I 4,I 3,.bool false,.bool false]) (by rfl);obtain⟨W6,d5,a3,a2⟩:=fw b5 9 (.agg #[I 4,I 0,.bool false,.bool false]) (by rfl);obtain⟨W7,d4,b6,V⟩:=fw a3 10 (.agg #[I 4,I 0,.bool false,.bool false]) (by rfl);obtain⟨W8,c8,a8,E⟩:=fw b6 11 (.agg #[I 5,I 0,.bool false,.bool false]) (by rfl)
 obtain⟨W9,d0,Q,b9⟩:=fw a8 12 (.agg #[I 5,I 1,.bool false,.bool true]) (by rfl);obtain⟨J,d8,R,F⟩:=fw Q 13 (.agg #[I 6,I 0,.bool false,.bool false]) (by rfl);have H:=U.below (GB j) a1;have a6:=N.below (GB j) H;have K:=a7.below (GB j) a6;have S:=b7.below (GB j) K;have a5:=G.below (GB j) S;have X:=a2.below (GB j) a5;have a9:=V.below (GB j) X;have a4:=E.below (GB j) a9;have W:=b9.below (GB j) a4;have Y:=F.below (GB j) W;have HF:Hid (w.1.size<=g/\J.1[g]? =some (.map gA.toArray 10)/\bL w J):=O ⟨GB j,R,Y⟩;clear D M b8 b4 Z b5 a3 b6 a8 Q R a1 H a6 K S a5 X a9 a4 W Y U N a7 b7 G a2 V E b9 F j A;go_in;go_wp2;go_ret;exact⟨g,z,HF⟩
theorem vn(x y z:Int)(w:Fk):(Instr.typeAssert (.iface 95 (.agg #[I x,I y,I z])) 20 95 true).run prog w= .ok (.tuple #[.agg #[I x,I y,I z],.bool true]) w:=by kernel_rfl
theorem xm(w:Fk):Sem.run prog (eqGuard .eql 20 (.tmp 6) (.const .nilIface) .nilIface .nilIface) w= .ok () w:=by kernel_rfl
theorem wW(w:Fk):Sem.run prog (binOp .eql 20 .nilIface .nilIface) w= .ok (.bool true) w:=by kernel_rfl
theorem wy(x y z:Int)(w:Fk):Sem.run prog (eqGuard .eql 20 (.tmp 6) (.const .nilIface) (.iface 95 (.agg #[I x,I y,I z])) .nilIface) w= .ok () w:=by kernel_rfl
theorem uT(x y z:Int)(w:Fk):Sem.run prog (binOp .eql 20 (.iface 95 (.agg #[I x,I y,I z])) .nilIface) w= .ok (.bool false) w:=by kernel_rfl
theorem oI:(prog.info? 33).map (·.size)=some 1:=by kernel_rfl
structure qe (w w':Fk) (z2 z3 z4:Nat) (f:fT):Prop where
 l:ak w' z2 30 fm
 p:ak w' z3 32 [.int .i64 f.1.1,.int .i64 f.1.2]
 e:ak w' z4 33 [.int .i64 f.2]
 os:w'.os=w.os
 tape:w'.tape=w.tape
 output:w'.output=w.output
 size:w.1.size<=w'.1.size
 block:∀c,c<w.1.size->c≠z2->c≠z3->c≠z4->w'.1[c]? =w.1[c]?
theorem nt(J F E:Nat)(w:Fk):CallsD prog 35 #[Pt J,Pt F,Pt E] .returning w fun e j w'=>e= .returned (.tuple #[])/\j= .returning/\bL w w':=by refine callsD_of_wpS func35 z fun H cs D=>?_;simp only[ntmps35,Hh,FV,Gg,Ij,Ik,Hz,HA,HO,HI,Hw,GM];apply wpS_seq;apply wpS_region;simp[wpOpsS,go_sem,recoverD,D,Exit.thenS];apply wpS_of_wp;have g:=O (FB w.1.size w);have C:=xm;have G:=wW;go_wp2;simp[bodyPostS,results,f35];have A:=g.o;clear g C G;exact⟨.returning,by cases H;simp_all,z,A⟩
theorem iK(C A j:Nat)(f:fT)(b4:List PanicEntry)(w:Fk)(h2:ak w C 30 l2)(hl:l2.length=13)(h3:ak w A 32 [I p,I q])(h4:ak w j 33 [I r])(b5:C≠A/\C≠j/\A≠j):
  CallsD prog 35 #[Pt C,Pt A,Pt j] (.panicking ({dd f with recovered:=false}::b4)) w fun e u' w'=>e= .returned (.tuple #[])/\u'= .panicking ({dd f with recovered:=true}::b4)/\qe w w' C A j f:=by
 obtain⟨⟨fl,fc⟩,g⟩:=f;refine callsD_of_wpS func35 z fun c₀ cs hu=>?_;simp only[ntmps35,Hh,FV,Gg,Ij,Ik,Hz,HA,HO,HI,Hw,GM];apply wpS_seq;apply wpS_region;simp[wpOpsS,go_sem,recoverD,hu,Exit.thenS];refine wpS_of_wp ?_;have ht:=vn fl fc g;have e1:=wy fl fc g;have e2:=uT fl fc g;simp only[dd];have a1:=O h2;have a7:=O h3;have a6:=O h4;clear h2 h3 h4;go_wp2_with fail;have Z:Hid (ak (w.alloc (.cells #[I fl,I fc,I g] 95)) w.1.size 95 [I fl,I fc,I g]/\FM w.1.size w (w.alloc (.cells #[I fl,I fc,I g] 95))):=O ⟨ak.new _ _ _,(FB _ w).alloc (FL _) _⟩;generalize w.alloc (.cells #[I fl,I fc,I g] 95)=W0 at *;obtain⟨D,a0⟩:∃b,w.1.size=b:=⟨_,z⟩;have G:Hid (C<D/\A<D/\j<D/\w.1.size=D):=O (by rw[<-a0];exact⟨a1.o.lt,a7.o.lt,a6.o.lt,z⟩)
 rw[a0]at Z;rw[a0];have HB:Hid (FM D w W0):=O Z.o.2;have X:=O b5;have b7:=O hl;clear ht e1 e2 b5 hl a0;have b6:prog.follows .mixedOrders=true:=by kernel_rfl
 obtain⟨H,Y⟩:∃H,W0.drew=H:=⟨_,z⟩;have V:Hid (FM D w H):=O (by rw[<-Y];exact HB.o.trans (FB _ _).drew);have K:Hid (ak H D 95 [I fl,I fc,I g]):=O (by rw[<-Y];exact Z.o.1.drew);have a5:Hid (ak H C 30 l2/\ak H A 32 [I p,I q]/\ak H j 33 [I r]):=O ⟨a1.o.of (V.o.block _ G.o.1),a7.o.of (V.o.block _ G.o.2.1),a6.o.of (V.o.block _ G.o.2.2.1)⟩;clear Z HB a1 a7 a6;refine al [] (fun W=>ak W D 95 [I fl,I fc,I g]) b6 ?_;rw[Y];clear Y;refine tk 0 (some 12) K ?_;refine tk 1 (some 13) K ?_;refine aM 2 (some 14) (v:=?_) z z (by kernel_rfl) (fun _ _ _ h=>h) K.o (GJ ⟨by rfl,?_⟩) ?_;rotate_left
 .intro W1 M;have f0:=M.cell 0;have f1:=M.cell 1;simp only[FE,FH]at f0 f1;clear M;go_simp;first|with_reducible rfl|rw[am (by omega)]
 refine tk 3 (some 15) K ?_;refine nm ?_;refine aM 4 (some 16) (v:=?_) z z (by kernel_rfl) (fun _ _ _ h=>h) K.o (GJ ⟨by rfl,?_⟩) ?_;rotate_left
 .intro W1 M;have f2:=M.cell 2;simp only[FE,FH]at f2;clear M;go_simp;first|with_reducible rfl|rw[am (by omega)]
 refine nm ?_;refine oD 5 fun Q E=>?_;refine an bN (.tmp 0) (.tmp 12) z C fm _ z z a5.o.1 b7.o ⟨z,by decide⟩ ?_;intro W5 k5 c5;have R:=O (EQ k5 c5);clear k5 c5;have a8:=O (R.o.2.CV (by have:=G.o;omega) K.o);refine E _ _ (fun _=>a8.o) ?_;clear E Q;refine oD 6 fun Q E=>?_;refine an br (.tmp 1) (.tmp 14) z A [I fl,I fc] _ z z (R.o.2.CV (by have:=X.o;omega) a5.o.2.1) z (cl fl fc) ?_;intro W6 k6 c6;have U:=O (EQ k6 c6);clear k6 c6;have a9:=O (U.o.2.CV (by have:=G.o;omega) a8.o);refine E _ _ (fun _=>a9.o) ?_;clear E Q;refine oD 7 fun Q E=>?_;refine aA oI (.tmp 2) (.tmp 16) z j 0 33 (I g) _ z z z z (U.o.2.CV (by have:=X.o;omega) (R.o.2.CV (by have:=X.o;omega) a5.o.2.2)) (by simp) ?_;intro W7 k7 c7
 have K7:=O (EQ k7 c7);clear k7 c7;have b8:=O (K7.o.2.CV (by have:=G.o;omega) a9.o);refine E _ _ (fun _=>b8.o) ?_;clear E Q;try simp only[Gf]
 refine dn ?_;have HF:Hid (qe w W7 C A j ((fl,fc),g)):=O (by have hn:=X.o;have S:=R.o.2.ED;have J:=U.o.2.ED;have F:=K7.o.2.ED;have N:=V.o;exact⟨F.CV (by omega) (J.CV (by omega) R.o.1),F.CV (by omega) U.o.1,K7.o.1,F.os.trans (J.os.trans (S.os.trans N.os)),F.tape.trans (J.tape.trans (S.tape.trans N.tape)),F.output.trans (J.output.trans (S.output.trans N.output)),by rw[F.size,J.size,S.size];exact N.size,fun c hc a2 a3 a4=> (F.block c a4).trans ((J.block c a3).trans ((S.block c a2).trans (N.block c (by have:=G.o.2.2.2;omega))))⟩)
 go_wp2_with fail;simp[bodyPostS,results,f35];exact HF.o
theorem yP{tmps:Array Fr}(F:tmps.getD 2 Gm=Pt j)(K:tmps.getD 3 Gm=Pt g)(Q:tmps.getD 4 Gm=Pt n0)(b2:ak W j 30 l2)(A:l2.length=13)(b3:ak W g 32 [I p,I q])(N:ak W n0 33 [I r]):
  (results f14 tmps).run prog W= .ok (.tuple #[.agg l2.toArray,.agg #[I p,I q],I r]) W:=by
 let ⟨S,H,E⟩:=eI
 let ⟨D,U,V⟩:=gW
 have R:tmps[2]?.getD Gm=Pt j:=by rw[<-F];simp
 have G:tmps[3]?.getD Gm=Pt g:=by rw[<-K];simp
 have M:tmps[4]?.getD Gm=Pt n0:=by rw[<-Q];simp
 have J:=run_loadVar_mid (P:=prog) W j 0 30 l2 S b2.whole H E (by rw[A];exact bN);have w:=run_loadVar_mid (P:=prog) W g 0 32 _ D b3.whole U V br;have c4:=N.cell 0;simp only[FE]at c4;have C:(loadVar 33 (ad n0 0)).run prog W= .ok (I r) W:=by simp[go_sem,c4]
 simp[results,R,G,M,asAddr,J,w,C]
structure F3 (w W:Fk) (z2 z3 z4:Nat) (ps:List Fr) (p q r:Int):Prop where
 l:ak W z2 30 ps
 n:ps.length=13
 p:ak W z3 32 [.int .i64 p,.int .i64 q]
 e:ak W z4 33 [.int .i64 r]
 b:FM w.1.size w W
 lt:w.1.size<=z2/\w.1.size<=z3/\w.1.size<=z4/\z2≠z3/\z2≠z4/\z3≠z4
section
variable {w W W':Fk} {z2 z3 z4:Nat} {ps:List Fr} {p q r:Int}
theorem F3.below(H:F3 w W z2 z3 z4 ps p q r)(g:bL W W'):F3 w W' z2 z3 z4 ps p q r:=⟨H.l.below g,H.n,H.p.below g,H.e.below g,H.b.trans (g.mono H.b.size),H.lt⟩
theorem F3.Fp{B F:Nat}(H:F3 w W z2 z3 z4 ps p q r)(j:mN B F g W W')(A:z2<B/\z3<B/\z4<B)(D:z2<F/\z3<F/\z4<F)(E:z2<g/\z3<g/\z4<g)(G:w.1.size<=B):F3 w W' z2 z3 z4 ps p q r:=
 ⟨H.l.of (j.block _ A.1 (by omega) (by omega)),H.n,H.p.of (j.block _ A.2.1 (by omega) (by omega)),H.e.of (j.block _ A.2.2 (by omega) (by omega)),⟨j.os.trans H.b.os,j.tape.trans H.b.tape,j.output.trans H.b.output,FU H.b.size j.size,fun c C=> (j.block c (by omega) (by have:=H.lt;omega) (by have:=H.lt;omega)).trans (H.b.block c C)⟩,H.lt⟩
theorem F3.ch(H:F3 w W z2 z3 z4 ps p q r)(g:Ch c W W')(j:z2≠c/\z3≠c/\z4≠c)(A:w.1.size<=c):F3 w W' z2 z3 z4 ps p q r:=⟨g.CV j.1 H.l,H.n,g.CV j.2.1 H.p,g.CV j.2.2 H.e,g.below A H.b,H.lt⟩
theorem uU{P:Pg}(k:Nat)(g:9<=k):((eW P).getD k []).length<=n:=by rw[FD,GV (by simp[eW];omega)];exact FX _
def tT(z2 z3 z4:Nat):List Deferred:=[{target:= .fn (.func 35) #[.pointer (some ⟨z2,0,none⟩),.pointer (some ⟨z3,0,none⟩),.pointer (some ⟨z4,0,none⟩)],args:= #[]}]
theorem hn{f:fT}(H:F3 w W z2 z3 z4 ps p q r)(E:A.tmps.getD 2 Gm=Pt z2)(D:A.tmps.getD 3 Gm=Pt z3)(G:A.tmps.getD 4 Gm=Pt z4)(hd:A.defers=tT z2 z3 z4):
  bodyPostD prog f14 (lh w (fz,f.1,f.2)) (.panic [dd f]) A W:=by
 show Leaves prog f14 A.tmps (lh w (fz,f.1,f.2)) A.defers (.panicking [dd f]) W;rw[hd];apply leaves_cons (f:=35) (args:= #[Pt z2,Pt z3,Pt z4]) (by simp) (by simp[go_sem]);apply (iK z2 z3 z4 f [] W H.l H.n H.p H.e ⟨H.lt.2.2.2.1,H.lt.2.2.2.2.1,H.lt.2.2.2.2.2⟩).mono;rintro e J w' ⟨rfl,rfl,g⟩;have C:=yP E D G g.l z g.p g.e;have F:lh w (fz,f.1,f.2) (.returned (.tuple #[.agg fm.toArray,.agg #[I f.1.1,I f.1.2],I f.2])) w':=⟨⟨fm,z,eQ _ _⟩,⟨g.os.trans H.b.os,g.tape.trans H.b.tape,g.output.trans H.b.output,FU H.b.size g.size,fun c j=> (g.block c (FJ j H.b.size) (by have:=H.lt;omega) (by have:=H.lt;omega) (by have:=H.lt;omega)).trans (H.b.block c j)⟩⟩;simp only[settle];exact⟨_,C,F⟩
theorem rr{P:Pg}(H:F3 w W z2 z3 z4 ps p q r)(K:ei (w.1.size<=·) W P ps)(F:A.tmps.getD 2 Gm=Pt z2)(E:A.tmps.getD 3 Gm=Pt z3)(J:A.tmps.getD 4 Gm=Pt z4)(hd:A.defers=tT z2 z3 z4):
  bodyPostD prog f14 (lh w (P,(p,q),r)) .ret A W:=by
 show Leaves prog f14 A.tmps (lh w (P,(p,q),r)) A.defers .returning W;rw[hd];apply leaves_cons (f:=35) (args:= #[Pt z2,Pt z3,Pt z4]) (by simp) (by simp[go_sem]);apply (nt z2 z3 z4 W).mono;rintro e M w' ⟨rfl,rfl,j⟩;have g:=H.below j;have D:=yP F E J g.l g.n g.p g.e;have G:lh w (P,(p,q),r) (.returned (.tuple #[.agg ps.toArray,.agg #[I p,I q],I r])) w':=⟨⟨ps,z,K.keep fun b o u _ C=>ai j b o u C⟩,g.b⟩;simp only[settle];exact⟨_,D,G⟩
theorem oB{P:Pg}(H:F3 w W z2 z3 z4 ps p q r)(F:ei (w.1.size<=·) W P ps)(C:A.tmps.getD 2 Gm=Pt z2)(j:A.tmps.getD 3 Gm=Pt z3)(E:A.tmps.getD 4 Gm=Pt z4)(hd:A.defers=[]):
  bodyPostD prog f14 (lh w (P,(p,q),r)) .ret A W:=by
 show Leaves prog f14 A.tmps (lh w (P,(p,q),r)) A.defers .returning W;rw[hd];have g:=yP C j E H.l H.n H.p H.e;have D:lh w (P,(p,q),r) (.returned (.tuple #[.agg ps.toArray,.agg #[I p,I q],I r])) W:=⟨⟨ps,z,F⟩,H.b⟩;exact⟨_,g,D⟩
end
theorem dh{g:Type}{E:El g}{ty:GA}{sz B:Nat}{l:List g}(f:g->List Fr)(F:E.sz=sz)(h:aL (jX ty sz) B w v (l.map f))(M:∀x,x∈l->E.L (B<=·) w (f x) x):Ro E (B<=·) w v l:=by
 let ⟨a,cap,D,C,J⟩:=Ro.of h
 refine⟨a,cap,by simpa using D,by simpa using C,fun j x A=>?_⟩;let ⟨b,N,cs,Q,G,H,K⟩:=J j (f x) (by simp[A])
 refine⟨b,N,cs,Q,G,by rw[F];exact H,?_⟩;rw[K.1];exact M x (List.mem_of_getElem? A)
theorem yk{B F h:Nat}{P:Pg}{vs:List Fr}{D:PF}{C:List Fr}{G:List Th}(H:Bo w0 w B F g h n0 P vs D C G W)(Q:vs.getD 3 bV= .slice (some (ad n0 0)) n5 n6)(A:n5=G.length)(N:aF n5 n6):pu (B<=·) W {P with threads:=G} (vs.getD 0 bV) (vs.getD 1 bV) (vs.getD 2 bV) (vs.getD 3 bV) (vs.getD 4 bV) (vs.getD 5 bV) (vs.getD 6 bV) (vs.getD 7 bV) (vs.getD 8 bV):=by
 subst A;refine⟨dh (E:=lg 2) cI z (H.o 0 (by decide) (by decide)).1 fun x _=>z,dh (E:=lg 3) cI z (H.o 1 (by decide) (by decide)).1 fun x _=>z,dh (E:=lg 3) cI z (H.o 2 (by decide) (by decide)).1 fun x _=>z,?_,dh (E:=fl) cS z (H.o 4 (by decide) (by decide)).1 fun x _=>z,dh (E:=fl) cS z (H.o 5 (by decide) (by decide)).1 fun x _=>z,dh (E:=fl) cS z (H.o 6 (by decide) (by decide)).1 fun x _=>z,dh (E:=fl) cS z (H.o 7 (by decide) (by decide)).1 fun x _=>z,dh (E:=fl) cS z (H.o 8 (by decide) (by decide)).1 fun x _=>z⟩;refine⟨some (ad n0 0),n6,Q,N,fun j x R=>?_⟩;let ⟨cs,M,J⟩:=H.a j x R
 refine⟨n0,0,cs,z,H.lt.1.2.2.2,fun t u K=>?_,gh.CQ (fun c J=>J.1.1) M⟩;have S:cs.length=3:=(gh.cells M).1;have A:t<3:=by have:=(FW.1 K).1;omega
 show W.cell? (ad n0 (0+j*3+t))=some u;rw[H.t.cell,GE,J t A];exact K
structure Dk (l:List De) (i:Nat) (P:Pg) (L:List Nm) (ce:Int):Prop where
 ln:(P.vars.length<=i/\P.CW.length<=i/\P.CX.length<=i/\P.threads.length<=i)/\(P.nv.length<=i/\P.na.length<=i/\P.nm.length<=i/\P.nc.length<=i/\P.nh.length<=i)/\P.CT<=i/\P.conds<=i
 ce:0<=ce/\ce<=256
 th:∀t∈P.threads,t.body=[]/\t.locals=0
 c6:P.threads.length+mM (l.drop i)=mM l
 mn:∀x∈L,x.kind=6->0<P.threads.length
 i:i<=64
 ms:P.main=0/\P.stmts=0
theorem Dk.Fu{l:List De}{P:Pg}{L:List Nm}{ce:Int}(h:Dk l i P L ce):xN P 1000:=by obtain⟨⟨⟨a,b,c,d⟩,⟨e,f,g,j,k⟩,m,n⟩,-,-,-,-,w,-⟩:=h;refine⟨fun q=>?_,by omega,by omega⟩;rcases q with _|_|_|_|_|_|_|_|_|q;all_goals first| (simp only[eW,List.getD_cons_zero,List.getD_cons_succ,List.length_map];omega)|exact uU _ (by omega)
theorem Dk.step{l:List De}{P:Pg}{L:List Nm}{ce:Int}{d:De}(h:Dk l i P L ce)(_:i<l.length)(hd:l.drop i=d::l.drop (i+1))(A:1<=d.kind/\d.kind<=6)(w:gl P L ce i d= .ok (G,N,p0)):Dk l (i+1) G N p0:=by
 let ⟨⟨⟨a,b,c,e⟩,⟨f,g,j,k,m⟩,n,p⟩,M,H,D,K,V,J⟩:=h
 rw[hd,mM]at D;cases F:ex L d.name with
 |some x=>rw[nT F]at w;cases w
 |none=>
  have S:d.kind=1∨d.kind=2∨d.kind=3∨d.kind=4∨d.kind=5∨d.kind=6:=by omega
  rcases S with A|A|A|A|A|A
  .rw[sT F A]at w;split at w
   .cases w
   cases w;rw[A]at D;refine⟨by simp;omega,M,H,by simpa using D,fun x C=>?_,by omega,J⟩;simp only[GG,Hq]at C;rcases C with C|rfl
   .exact K x C
   .intro E;simp[A]at E
  .by_cases Q:d.num<1∨256<d.num∨256<ce+d.num
   .rw[mz F A Q]at w;cases w
   rw[tS F A Q]at w;split at w
   .cases w
   cases w;rw[A]at D;refine⟨by simp;omega,by omega,H,by simpa using D,fun x C=>?_,by omega,J⟩;simp only[GG,Hq]at C;rcases C with C|rfl
   .exact K x C
   .intro E;simp[A]at E
  .rw[ux F A]at w;split at w
   .cases w
   cases w;rw[A]at D;refine⟨by simp;omega,M,H,by simpa using D,fun x C=>?_,by omega,J⟩;simp only[GG,Hq]at C;rcases C with C|rfl
   .exact K x C
   .intro E;simp[A]at E
  .rw[ub F A]at w;split at w
   .cases w
   cases w;rw[A]at D;refine⟨by simp;omega,M,H,by simpa using D,fun x C=>?_,by omega,J⟩;simp only[GG,Hq]at C;rcases C with C|rfl
   .exact K x C
   .intro E;simp[A]at E
  .by_cases Q:d.num<1∨16<d.num
   .rw[qu F A Q]at w;cases w
   rw[so F A Q]at w;split at w
   .cases w
   cases w;rw[A]at D;refine⟨by simp;omega,M,H,by simpa using D,fun x C=>?_,by omega,J⟩;simp only[GG,Hq]at C;rcases C with C|rfl
   .exact K x C
   .intro E;simp[A]at E
  .rw[uz F A]at w;split at w
   .cases w
   cases w;rw[A]at D;refine⟨by simp;omega,M,fun t R=>?_,by simp at D ⊢;omega,fun x _ _=>by simp,by omega,J⟩;simp only[GG,Hq]at R;rcases R with R|rfl
   .exact H t R
   .exact⟨z,z⟩
theorem zy:∃i z,prog.info? 33=some i/\i.zero=some z/\z.cells=([I 0]:List Fr).toArray:=fH (by kernel_rfl)
theorem nR{nm:ByteArray->Bool}{d:De}(h:fI nm d=true):(1<=d.kind/\d.kind<=6)/\(d.kind=1->-2147483648<=d.num/\d.num<=2147483647)/\St.DO d.body:=by
 unfold fI at h;simp only[Bool.and_eq_true]at h;obtain⟨-,g,j⟩:=h;have A:d.body.length=0->St.DO d.body:=fun e=>by rw[List.length_eq_zero_iff.1 e];unfold St.DO;trivial
 by_cases w:d.kind=1
 .rw[aD w]at j;simp at g j;exact⟨by omega,fun _=>by omega,A (by rcases g with g|g;omega;simp[g])⟩
 rw[am w]at j;by_cases D:d.kind=2∨d.kind=5
 .simp at g;exact⟨by omega,fun e=>absurd e w,A (by rcases g with g|g;omega;simp[g])⟩
 rw[am D]at j;by_cases k3:d.kind=3∨d.kind=4
 .simp at g;exact⟨by omega,fun e=>absurd e w,A (by rcases g with g|g;omega;simp[g])⟩
 rw[am k3]at j;by_cases C:d.kind=6
 .rw[aD C,Bool.and_eq_true]at j;exact⟨by omega,fun e=>absurd e w,gK d.body j.2⟩
 .rw[am C]at j;cases j
theorem uF(P:Pg){P0:Pg}{B:Nat}{vs:List Fr}(h:Gs B w vs (eW P0)):(fb P vs).length=13/\∀v∈fb P vs,v.oneCell'=true:=by
 have j:∀k,(vs.getD k bV).oneCell'=true:=fun k=>by
  by_cases A:k<9
  .obtain⟨a,cap,C,-⟩:=(h.gr k A).form;rw[C];rfl
  .rw[FD,GV (by rw[h.len.1];omega)];rfl
 refine⟨z,fun v g=>?_⟩;simp only[fb,FQ,FO,or_false]at g;rcases g with rfl|rfl|rfl|rfl|rfl|rfl|rfl|rfl|rfl|rfl|rfl|rfl|rfl;all_goals first|rfl|exact j _
theorem qW(P:Pg)(L:List Nm)(ce:Int)(i:Nat)(d:De)(r:List De):jr P L ce i (d::r)=(match gl P L ce i d with| .error e=> .error e| .ok q=>jr q.1 q.2.1 q.2.2 (i+1) r):=by
 rw[jr];cases gl P L ce i d with
 |error e=>rfl
 |ok q=>rfl
theorem qF{nmf:ByteArray->Bool}{l:List De}{cap F h B:Nat}{P:Pg}{vs:List Fr}{L:List Nm}{ce:Int}{R:Pg× (Int×Int)×Int}{d9 e7 e8 f4 f7:Fr}(HN:Hid (l.length=n7))(HZ:Hid (w.1.size=n0/\n0+1=n5/\n5+1=n6))(f5:Hid (F<B/\g<B/\h<B/\n6<g/\g<h/\h<F/\w.1.size<=g))
  (H:Hid (F3 w W n0 n5 n6 fm 0 0 0/\Fi W F g h (fb P vs) ⟨L,ce,0,0,0⟩/\Gs B W vs (eW P)/\B<=W.1.size))(U:Hid (Dk l n7 P L ce))(e4:Hid (co nmf l=true))(f6:Hid (cQ (fun _=>True) w a l))(d6:aF n7 cap)
  (HR:Hid (R=(match ex L fh with|none=> (fz,(0,0),133)|some x=>if x.kind≠6 then (fz,(0,0),133) else match gS L 0 l with| .error e=> (fz,e.1,e.2)| .ok (bs,n)=> ({P with main:=x.slot,threads:=df P.threads bs,stmts:=n},(0,0),0)))):
  FR prog (Jp 5 (f14.body.getD .skip)) (bodyPostD prog f14 (lh w R)) ⟨#[.slice a n7 cap,u5,Pt n0,Pt n5,Pt n6,u6,Pt F,u7,u8,u9,x0,x1,x2,x3,x4,v5,v6,v7,v8,v9,u0,u1,u2,u3,u4,vK,vL,vM,vN,vP,vQ,vR,vS,vT,vU,vV,vW,vX,vY,vZ,d9,e7,e8,f4,f7,x5,x6,x7,x8,x9,y0,y1,y2,y3,y4,y5,y6,y7,y8,y9,vA,vB,vC,vD,vE,vF,vG,vH,vI,vJ,v4,v0,v2,v3,v1],tT n0 n5 n6⟩ W:=by
 obtain⟨i4,g1,f8,d7,f2⟩:=eR;obtain⟨e0,f3,d8⟩:=eI;obtain⟨r,hr⟩:∃r,ex L fh=r:=⟨_,z⟩;have A:=HR.o;rw[hr]at A;have M:=O A;have b8:=O hr;have e1:=O d6;clear A hr HR d6;have b6:=jG H.o.2.1.m ⟨#[109,97,105,110]⟩;rw[mr,show ex L ⟨#[109,97,105,110]⟩=r from b8.o]at b6;have c13:=H.o.2.1.c13;obtain⟨bM,a8⟩:∃b,W.1.size=b:=⟨_,z⟩;conv in (Jp _ _)=>whnf
 refine wk fun KK b9=>?_;go_wp2_with (first
  | ((with_reducible refine cp 9 (.alloc 104) ?_);refine ag f8 d7 f2 z z bM a8 ?_;intro W1 k1 b1 e6;have K1:=O k1;have B1:=O b1;clear k1 b1)
  | ((with_reducible refine cY (.store 104 _ _) ?_);refine af bY z (.tmp 9) (.tmp 41) z bM [I (xH r),I (xM r)] _ z z K1.o z ⟨z,by simp[GZ]⟩ ?_;intro W2 k2 c2;have K2:=O k2;have V:=O (c2.below (by rw[a8];exact FL _) B1.o);clear k2 c2 K1 B1 e6)
  |fail)
 refine b9.o _ _ ?_;clear b9 KK b6 c13 a8;have D:=O (EQ (H.o.1.below V.o) (EQ (H.o.2.1.up V.o) (EQ (H.o.2.2.1.below V.o) (FU H.o.2.2.2 V.o.size))));clear H V;have m0:W2.cell? ⟨bM,0,none⟩=some (I (xH r)):=K2.o.cell 0;have m1:W2.cell? ⟨bM,1,none⟩=some (I (xM r)):=K2.o.cell 1;rcases r with _|⟨xt,xk,xs⟩
 .go_wp2_with fail;rw[M.o];exact hn (f:=((0,0),133)) D.o.1 z z z z
 simp only[xH,xM]at m0 m1;by_cases hk:xk=6;rotate_left
 .have g2:¬ (xk:Int)=6:=by omega
  have A:=M.o;simp only[ne_eq,hk,not_false_iff,if_true]at A;have a1:=O A;clear A M;go_wp2_with fail;rw[a1.o];exact hn (f:=((0,0),133)) D.o.1 z z z z
 subst hk;have A:=M.o;simp only[ne_eq,not_true,if_false]at A;have a1:=O A;have e2:Hid (∀n:Nat,(fb {P with main:=xs,stmts:=n} vs).length=13/\∀v∈fb {P with main:=xs,stmts:=n} vs,v.oneCell'=true):=O fun n=>uF _ D.o.2.2.1;have h0:0<P.threads.length:=U.o.mn _ (List.mem_of_find?_eq_some b8.o) z;have f0:=O h0;clear A M h0;go_wp2_with (first
  | ((with_reducible refine cY (.store 3 (.tmp 58) _) ?_);refine az dx z (.tmp 58) (.tmp 55) z F 6 101 (I xs) _ z z z z D.o.2.1.f (by simp[fb,eD]) ?_;intro K k3 c3;have J:=O (EQ k3 c3);clear k3 c3)
  |fail)
 have C:=O f5.o;have G:=O HZ.o;have d3:=D.o.2.1.fg;have b4:=D.o.2.1.fh;have d5:Hid (Fi K F g h (fb {P with main:=xs} vs) ⟨L,ce,0,0,0⟩):=O (D.o.2.1.pc z J.o.1 (J.o.2.FB (fun e=>d3 e.symm)) (J.o.2.FB (fun e=>b4 e.symm)));have a0:Hid (Gs B K vs (eW {P with main:=xs})):=O (D.o.2.2.1.ch J.o.2 (.inl C.o.1));have H3:=O (D.o.1.ch J.o.2 (by have:=C.o;have:=G.o;omega) (by have:=C.o;omega));have g3:Hid (B<=K.1.size):=O (by rw[J.o.2.size];exact D.o.2.2.2);clear D J m0 m1 K2 d3 b4;obtain⟨gt,g4,C0,a4,b5,d4,a3,a6,d0⟩:=kc (a0.o.gr 3 (by decide)) (by simpa [eW]using f0.o) (by decide);have d2:((eW {P with main:=xs}).getD 3 []).length=P.threads.length:=by simp[eW]
 rw[d2]at a4 a3 a6;have a5:=O a4;have f1:=O a3;have S:Hid (Bo w K B F g h gt {P with main:=xs} vs ⟨L,ce,0,0,0⟩ C0 P.threads K):=O ⟨mN.refl _ _ _ _,d5.o,d4,fun j x hj=>by
  obtain⟨cs,h1,h2⟩:=d0 j (cT x) (by simp[eW,hj]);have Z:=(U.o.th x (List.mem_of_getElem? hj)).1;refine⟨cs,⟨none,0,?_,?_,?_⟩,h2⟩
  .rw[h1.1,Z];rfl
  .rw[Z];exact⟨FL _,by decide⟩
  .rw[Z];unfold aE;trivial,a6,fun k e3 e9=>⟨a0.o.gr k e3,a0.o.ap 3 k gt (fun e=>e9 e.symm) (by rw[a5.o];rfl)⟩,H3.o.b,⟨C.o.1,C.o.2.1,C.o.2.2.1,b5⟩,by have:=C.o;omega,by have:=C.o;omega⟩
 clear a4 a3 b5 d4 a6 d0 d2 a0 d5;have b7:l.drop n7=[]:=by rw[<-HN.o];exact Hn
 have h6:=U.o.c6;rw[b7]at h6;simp only[mM,Nat.add_zero]at h6;have a2:=sB l a cap (by rw[HN.o];exact e1.o) f6.o S.o a5.o z ⟨z,FX _⟩ (fun d hd=> (nR (GC.1 e4.o d hd)).2.2) ⟨h6,by have h1:=U.o.ln.1.2.2.2;have h2:=U.o.i;omega⟩;rw[HN.o]at a2;refine a2.mono ?_;clear a2 b7 h6;rintro e W4 ⟨a9,hm⟩;have H4:=O (H3.o.Fp a9 (by have:=C.o;have:=G.o;omega) (by have:=C.o;have:=G.o;omega) (by have:=C.o;have:=G.o;omega) (by have:=C.o;omega));clear a9 H3 S;obtain⟨rb,d1⟩:∃r,gS L 0 l=r:=⟨_,z⟩;have A:=a1.o;simp only at hm;rw[d1]at hm A;have c9:=O A;clear A a1 d1;rcases rb with er|⟨bs,n⟩
 .obtain rfl:=hm;have A:=c9.o;simp only at A;rw[A];exact hn H4.o z z z z
 obtain⟨rfl,mo,C4,a7⟩:=hm;have S:=O a7;have c16:=a7.f.c16;clear a7;go_wp2_with (first
  | ((with_reducible refine cY (.store 3 (.tmp 69) _) ?_);refine az dx z (.tmp 69) (.tmp 66) z F 7 101 (I n) _ z z z z S.o.f.f (by simp[fb,eD]) ?_;intro W5 k5 c5;have K5:=O (EQ k5 c5);have e5:Hid (W5.rangeAt F 0 (fb {P with main:=xs,stmts:=n} vs)):=O (ak.range (pre:=[]) (mid:=fb {P with main:=xs,stmts:=n} vs) (post:=eD g h ⟨L,ce,n,0,mo⟩) k5 z);have Q:=O (H4.o.ch c5 (by have:=C.o;have:=G.o;omega) (by have:=C.o;omega));clear k5 c5)
  | ((with_reducible refine cp 73 (.load 30 _) ?_);refine Gn z 30 (.tmp 72) z F 0 z (fb {P with main:=xs,stmts:=n} vs) e0 e5.o f3 d8 bN ?_)
  | ((with_reducible refine cY (.store 30 (.tmp 2) _) ?_);refine af bN z (.tmp 2) (.tmp 73) z n0 (fb {P with main:=xs,stmts:=n} vs) _ z z Q.o.l z (e2.o n) ?_;intro W6 k6 c6;have Y:=O (EQ k6 c6);clear k6 c6)
  | ((with_reducible refine cY (.store 32 (.tmp 3) _) ?_);refine af br z (.tmp 3) (.tmp 74) z n5 [I 0,I 0] _ z z (Y.o.2.CV (by have:=G.o;omega) Q.o.p) z (cl 0 0) ?_;intro W7 k7 c7;have N:=O (EQ k7 c7);clear k7 c7)
  | ((with_reducible refine cY (.store 33 (.tmp 4) _) ?_);refine az oI z (.tmp 4) (.const (I 0)) z n6 0 33 (I 0) _ z z z z (N.o.2.CV (by have:=G.o;omega) (Y.o.2.CV (by have:=G.o;omega) Q.o.e)) (by simp) ?_;intro W8 k8 c8;have X:=O (EQ k8 c8);clear k8 c8)
  |fail)
 have A:=c9.o;rw[A];have hz:=G.o;have hl:=C.o;have H8:F3 w W8 n0 n5 n6 (fb {P with main:=xs,stmts:=n} vs) 0 0 0:=⟨X.o.2.CV (by omega) (N.o.2.CV (by omega) Y.o.1),z,X.o.2.CV (by omega) N.o.1,X.o.1,X.o.2.below (by omega) (N.o.2.below (by omega) (Y.o.2.below (by omega) Q.o.b)),Q.o.lt⟩;have hp:=yk S a5 (by rw[fP]) f1;have E:=(hp.keep (w':=W8) fun b o u Z hu=>by have f9:B<=b:=Z;rw[X.o.2.cell (by omega),N.o.2.cell (by omega),Y.o.2.cell (by omega),K5.o.2.cell (by omega)];exact hu).CQ (ok':=fun c=>w.1.size<=c) fun c hc=>by have g5:B<=c:=hc;omega
 exact rr H8 ⟨_,_,_,_,_,_,_,_,_,z,⟨E.vars,E.CW,E.CX,E.threads,E.nv,E.na,E.nm,E.nc,E.nh⟩⟩ z z z z
theorem lV{nmf:ByteArray->Bool}(l:List De)(a:Option Addr)(cap:Nat)(w:Fk)(d4:aF l.length cap)(d9:cQ (fun _=>True) w a l)(b5:∀W,FM w.1.size w W->Jq prog 34 #[.slice a l.length cap] W fun e w'=>e= .returned (I (if co nmf l=true then 0 else 2))/\FM W.1.size W w'):
  Jq prog 14 #[.slice a l.length cap] w (lh w (if co nmf l=true then cW l else (fz,(0,0),2))):=by
 have j7:=uo;let ⟨k8,l3,i5,i1,i3⟩:=hJ
 let ⟨k0,j2,f5,g1,g8⟩:=hG
 let ⟨j6,l2,g3,h6,g7⟩:=zy
 let ⟨i9,j4,f7,g4,g6⟩:=qa
 let ⟨h0,e5,e3⟩:=lb
 let ⟨j1,j9,j0⟩:=eI
 let ⟨i4,y4,l4,a7,j8⟩:=eR
 obtain⟨E,hN⟩:=eX l.length;rw[hN]at d4 ⊢;simp only[hN]at b5;have Q:=O hN;have b9:=O fun _:True=>d4;have f3:=O d9;have d7:=O b5;obtain⟨R,j⟩:∃R,(if co nmf l=true then cW l else (fz,(0,0),2))=R:=⟨_,z⟩;rw[j];have HR:=O j;clear hN d4 d9 b5 j;obtain⟨C,h2⟩:=eX w.1.size;go_enter_defers func14,ntmps14;refine wk fun M A=>?_;go_wp2_with (first
  | (with_reducible refine cp 2 (.alloc 30) ?_;refine ag i5 i1 i3 z z C h2 ?_;intro W1 k1 b1 e7;have K1:=O k1;have B1:=O b1;clear k1 b1)
  | (with_reducible refine cp 3 (.alloc 32) ?_;refine ag f5 g1 g8 z z (C+1) e7 ?_;intro W2 k2 b2 s2;have K2:=O k2;have B2:=O b2;clear k2 b2)
  | (with_reducible refine cp 4 (.alloc 33) ?_;refine ag g3 h6 g7 z z (C+1+1) s2 ?_;intro W3 k3 b3 s3;have K3:=O k3;have B3:=O b3;clear k3 b3)
 )
 apply A;clear A M;obtain⟨X,d1⟩:=eX (C+1);rw[d1]at K2 K3 s2 s3 ⊢;obtain⟨U,a7⟩:=eX (X+1);rw[a7]at K3 s3 ⊢;have G:Hid (w.1.size=C/\C+1=X/\X+1=U):=O ⟨h2,d1,a7⟩;have b6:=B1.o.trans (B2.o.mono B1.size);have e9:=b6.trans (B3.o.mono b6.size);have H3:Hid (F3 w W3 C X U fm 0 0 0):=O ⟨(K1.o.below B2.o).below B3.o,z,K2.o.below B3.o,K3.o,e9,by omega⟩;clear K1 K2 K3 B1 B2 B3 e7 s2 s3 b6 e9 h2 d1 a7;refine wk fun M A=>?_;go_wp2_with fail;refine(d7.o W3 H3.o.b).mono ?_;rintro e H ⟨rfl,hb⟩;have N:=O (H3.o.below hb);clear hb H3 d7;by_cases a0:co nmf l=true;rotate_left
 .have j:=HR.o;rw[am a0]at j;have a5:=O j.symm;rw[am a0];clear HR j;go_wp2_with (first
   | ((with_reducible refine cY (.store 30 (.tmp 2) _) ?_);refine af bN z (.tmp 2) (.tmp 15) z C fm _ z z N.o.l z ⟨z,by decide⟩ ?_;intro K k5 c5;have K5:=O (EQ k5 c5);clear k5 c5)
   | ((with_reducible refine cY (.store 32 (.tmp 3) _) ?_);refine af br z (.tmp 3) (.tmp 16) z X [I 0,I 0] _ z z (K5.o.2.CV (by have:=G.o;omega) N.o.p) z (cl 0 0) ?_;intro W6 k6 c6;have K6:=O (EQ k6 c6);clear k6 c6)
   | ((with_reducible refine cY (.store 33 (.tmp 4) _) ?_);refine az oI z (.tmp 4) (.tmp 17) z U 0 33 (I 2) _ z z z z (K6.o.2.CV (by have:=G.o;omega) (K5.o.2.CV (by have:=G.o;omega) N.o.e)) (by simp) ?_;intro V k7 c7;have S:=O (EQ k7 c7);clear k7 c7)
   |fail)
  rw[a5.o];have hz:=G.o;have H7:F3 w V C X U fm 0 0 2:=⟨S.o.2.CV (by omega) (K6.o.2.CV (by omega) K5.o.1),z,S.o.2.CV (by omega) K6.o.1,S.o.1,S.o.2.below (by omega) (K6.o.2.below (by omega) (K5.o.2.below (by omega) N.o.b)),N.o.lt⟩;exact oB H7 (eQ _ _) z z z z
 have j:=HR.o;rw[aD a0]at j;have a5:=O j.symm;rw[aD a0];have e6:=O a0;clear HR j a0;go_wp2;apply A;clear A M;refine wk fun M A=>?_;go_wp2;apply A;clear A M;obtain⟨g,hg⟩:=eX H.1.size;obtain⟨K,a8⟩:=eX (H.alloc (.map #[] 0));have f8:(Instr.makeMap 97 none).run prog H= .ok (.map (some g)) K:=by rw[<-hg,<-a8];kernel_rfl
 have D:Hid (FM H.1.size H K/\oV K g []/\g<K.1.size):=O (by
  have h1:K.1[g]? =some (.map #[] 0):=by rw[<-a8,<-hg];exact Df _ _
  exact⟨by rw[<-a8];exact(FB _ H).alloc (FL _) _,⟨[],0,h1,z⟩,(FT.1 h1).1⟩)
 have HG:Hid (H.1.size=g):=O hg;clear hg a8;refine wk fun M A=>?_;go_wp2_with fail;apply (pz K).mono;rintro e W6 ⟨h,rfl,hh,c9,c8⟩;have H6:=O ((N.below D.1).below c8);have Y:Hid (oV W6 g []/\W6.1[h]? =some (.map gA.toArray 10)/\h<W6.1.size/\g<h/\H.1.size<=g):=O ⟨D.2.1.of (c8.block _ D.2.2),c9,(FT.1 c9).1,by have:=D.2.2;omega,GB HG⟩;have f2:Hid (U<g):=O (by have h1:=N.e.lt;have h3:=HG.o;omega);clear f8 D HG c9 c8 hh N;obtain⟨F,hF⟩:=eX W6.1.size;go_wp2_with (first
  | (with_reducible refine cp 22 (.box 101 _) ?_;refine aJ z (.tmp 21) z (fb fz (Ie 9 bV)++eD g h ⟨[],0,0,0,0⟩) z F hF ?_;intro V k7 b7 s7;have S:=O k7;have B7:=O b7;clear k7 b7)
 )
 refine A.o _ _ ?_;clear A M;obtain⟨B,hB⟩:∃B,V.1.size=B:=⟨_,z⟩;have a4:Hid (F<B/\g<B/\h<B/\U<g/\g<h/\h<F/\w.1.size<=g):=O (by have h1:=Y.o;have h3:=f2.o;have h4:=G.o;have h5:=B7.o.size;omega)
 have e0:Hid (Fi V F g h (fb fz (Ie 9 bV)) ⟨[],0,0,0,0⟩):=O ⟨z,S.o,Y.o.1.of (B7.o.block _ (by have:=Y.o;omega)),(B7.o.block _ Y.o.2.2.1).trans Y.o.2.1,by have:=a4.o;omega,by have:=a4.o;omega,by have:=a4.o;omega⟩;have H7:=O (H6.o.below B7.o);have e4:Hid (Gs B V (Ie 9 bV) (eW fz)):=O (Gs.nil B V);have f0:Hid (B<=V.1.size):=O (GB hB.symm);clear S B7 s7 hF Y f2 H6 hB;refine wk fun M A=>?_;go_wp2_with fail;go_loopg [25] E (fun x iv wr=>∃ (i:Nat) (P:Pg) (vs:List Fr) (L:List Nm) (ce:Int),i<=E/\x=E-i/\iv=I i/\Hid (F3 w wr C X U fm 0 0 0/\Fi wr F g h (fb P vs) ⟨L,ce,0,0,0⟩/\Gs B wr vs (eW P)/\B<=wr.1.size)/\Hid (Dk l i P L ce)/\Hid (jr fz [] 0 0 l=jr P L ce i (l.drop i)))
 case atStart=>exact⟨0,fz,_,[],0,FX _,z,z,O ⟨H7.o,e0.o,e4.o,f0.o⟩,O ⟨by decide,by decide,(fun t ht=>by cases ht),(by rw[GD];simp[fz]),(fun x hx=>by cases hx),by decide,z,z⟩,O (by simp)⟩
 case round=>
  clear H7 e0 e4 f0;obtain⟨i,P,vs,L,ce,hi,rfl,rfl,Z,HD,b8⟩:=hrel;by_cases a3:i<E
  .have k9:(i:Int)< (E:Int):=by omega
   have j5:(0:Int)<=(i:Int):=by omega
   have g5:Hid (wrap64 ((i:Int)+1)=((i+1:Nat):Int)):=O (by have h1:=(b9.o trivial).1;have h2:=(b9.o trivial).2;have:=Gi ((i:Int)+1) (by omega);rw[this];omega)
   obtain⟨b2,d6,dc,rfl,-,d5,h7⟩:=f3.o i (by rw[Q.o];exact a3);have d8:l.getD i default∈l:=by rw[FD,FC (by rw[Q.o];exact a3)];exact Gy _
   have d3:l.drop i=l.getD i default::l.drop (i+1):=by rw[FZ (by rw[Q.o];exact a3),FD,FC (by rw[Q.o];exact a3)];rfl
   have J:=b8.o;rw[d3,qW]at J;have f4:=nR (GC.1 e6.o _ d8);generalize l.getD i default=d at *;obtain⟨ba,a2,rfl,-,-⟩:=h7;obtain⟨BN,e1⟩:∃n,d.body.length=n:=⟨_,z⟩;rw[e1]at d5;have g2:Hid (wr.rangeAt b2 (d6+i*6) (dg d (.slice ba BN a2))):=O fun t v hv=>ai Z.o.1.b _ _ _ (by simpa using d5 t v hv);have i2:=O d3;have d0:=O f4;have f1:=O J;obtain⟨bA,e2⟩:∃b,wr.1.size=b:=⟨_,z⟩;have f6:Hid (wr.1.size=bA):=O e2;clear J f4 d5 d3 d8 b8 e1;go_wp2_with (first
    | ((with_reducible refine cp 29 (.load 46 _) ?_);refine Gn z 46 (.tmp 28) z b2 (d6+i*6) z (dg d (.slice ba BN a2)) h0 g2.o e5 e3 eH ?_)
    | ((with_reducible refine cp 8 (.alloc 46) ?_);refine ag f7 g4 g6 z z bA e2 ?_;intro H k4 b4 s4;have K4:=O k4;have B4:=O b4;clear k4 b4)
    | ((with_reducible refine cY (.store 46 (.tmp 8) _) ?_);refine af eH z (.tmp 8) (.tmp 29) z bA (dg d (.slice ba BN a2)) _ z z K4.o z (iu d z) ?_;intro K k5 c5;have D:=O (c5.below (by rw[f6.o];exact FL _) B4.o);have f9:=O k5;clear k5 c5 K4 B4 s4)
    | ((with_reducible refine cp 32 (.load 46 _) ?_);refine ac e5 e3 eH z (.tmp 8) z bA (dg d (.slice ba BN a2)) z f9 z ?_)
    |fail)
   have a6:=O (EQ (Z.o.1.below D.o) (EQ (Z.o.2.1.up D.o) (EQ (Z.o.2.2.1.below D.o) (FU Z.o.2.2.2 D.o.size))));have a1:=a4.o;refine(ut d (.slice ba BN a2) i a6.2.1 a6.2.2.1 ⟨a1.1,a1.2.1,a1.2.2.1,a6.2.2.2⟩ z d0.1 d0.2.1 HD.ce (by have:=HD.i;omega) HD.Fu).mono ?_;rintro e W8 ⟨d2,hm⟩;have a9:=O a1;clear a1;have H8:=O (a6.1.Fp d2 (by have:=a9.o;have:=G.o;omega) (by have:=a9.o;have:=G.o;omega) (by have:=a9.o;have:=G.o;omega) (by have:=a9.o;omega));have i6:=O (FU a6.2.2.2 d2.size);obtain⟨r,hr⟩:=eX (gl P L ce i d);have J:=f1.o;rw[hr]at hm J;rcases r with er|⟨P',L',i8⟩
   .obtain rfl:=hm;have j:=a5.o;unfold cW at j;rw[J]at j;rw[j];exact hn H8 z z z z
   obtain⟨rfl,i0,hf,e8⟩:=hm;have h8:=O (EQ H8 (EQ hf (EQ e8 i6)));have i7:=O (HD.step (by rw[Q.o];exact a3) i2 d0.1 hr);have h9:=O J;clear d2 hf e8 hr J f1;go_wp2;go_roundg (E- (i+1));case measure=>omega
   case rel=>exact⟨i+1,P',i0,L',i8,by omega,z,congrArg (Gr .i64) g5,h8,i7,h9⟩
  .obtain rfl:i=E:=by omega
   have j3:¬ (i:Int)< (i:Int):=by omega
   have hQ:=b8.o;rw[<-Q.o,Hn,jr]at hQ;have j:=a5.o;unfold cW at j;rw[hQ]at j;have g9:=O j;clear hQ j a5;go_wp2;apply A;exact qF Q G a4 Z HD e6 f3 (b9 trivial) g9
theorem qU(nmf:ByteArray->Bool)(s:ByteArray)(w:Fk)(hE:gc w)(hO:hR w)(d0:∀ (W:Fk) (a:Option Addr) (cap:Nat),bL w W->aF (bh s).1.length cap->cQ (fun _=>True) W a (bh s).1->Jq prog 34 #[.slice a (bh s).1.length cap] W fun e w'=>e= .returned (I (if co nmf (bh s).1=true then 0 else 2))/\bL W w'):
  Jq prog 10 #[.string s] w (lh w (eC (fun l=>if co nmf l=true then cW l else (fz,(0,0),2)) s)):=by
 obtain⟨i3,z3,f8,f4,f6⟩:=hJ;obtain⟨i2,z2,d8,d5,e1⟩:=hG;obtain⟨h0,e4,d1⟩:=eI;obtain⟨g7,e6,d6⟩:=gW;have g4:prog.follows .mixedOrders=true:=by kernel_rfl
 obtain⟨R,g⟩:=eX (eC (fun l=>if co nmf l=true then cW l else (fz,(0,0),2)) s);rw[g];unfold eC at g;have N:=O g;have c9:=O d0;have b8:=O (EQ hE hO);clear g d0 hE hO;go_in;refine wk fun KK U=>?_;go_wp2_with (first
  | (with_reducible refine cp 2 (.alloc 30) ?_;refine ag f8 f4 f6 z z w.1.size z ?_;intro W1 k1 b1 d9;have K1:=O k1;have B1:=O b1;clear k1 b1)
  | (with_reducible refine cp 3 (.alloc 32) ?_;refine ag d8 d5 e1 z z (w.1.size+1) d9 ?_;intro W2 k2 b2 s2;have K2:=O k2;have B2:=O b2;clear k2 b2)
 )
 refine U.o _ _ ?_;clear U KK;have a1:=B1.o.trans (B2.o.mono B1.o.size);have hp:=iX s W2 (b8.o.1.below a1 (by have:=b8.o.1.1;omega)) (b8.o.2.below a1);unfold sE at hp;obtain⟨b5,hZ⟩:=eX (bh s);rw[hZ]at hp N c9;obtain⟨l,⟨G,pc⟩,er⟩:=b5;have b9:=O a1;have e2:=O (K1.o.below B2.o);have d7:=O K2.o;clear a1 hZ K1 K2 B1 B2;refine wk fun KK U=>?_;go_wp2_with fail;refine hp.mono ?_;clear hp;rintro e D ⟨j,a,cap,rfl,e8,e7⟩;have f0:=j.size;have d4:Hid (w.1.size+2<=D.1.size):=O (by omega);have a5:=O (e2.o.below j);have a4:=O (d7.o.below j);have d3:=O (b9.o.trans (j.mono b9.o.size));have a9:=O (cQ.CQ (ok':=fun _=>True) (fun _ _=>trivial) e7.Fa);have a7:=O fun _:True=>e8;clear j e2 d7 b9 e7 e8
 obtain⟨a3,hN⟩:∃a3,l.length=a3:=⟨_,z⟩;have HN:Hid (l.length=a3):=O hN;try simp only at a7
 try simp only at a9
 simp only[hN];clear hN;go_wp2_with (first
  | (with_reducible refine cp 6 (.alloc 32) ?_;refine ag d8 d5 e1 z z D.1.size z ?_;intro W4 k4 b4 s4;have K4:=O k4;have Z:=O b4;clear k4 b4)
  | (with_reducible refine s0 32 ?_;refine af br z (.tmp 6) (.tmp 12) z D.1.size [I G,I pc] _ z z K4.o z (cl G pc) ?_;intro S k5 c5;have J:=O (EQ k5 c5);clear k5 c5)
 )
 refine U.o _ _ ?_;clear U KK;have f1:=a5.o.lt;have g2:=a4.o.lt;have c8:=O (J.o.2.CV (by omega) (a5.o.below Z.o));have X:=O (J.o.2.CV (by omega) (a4.o.below Z.o));have a0:Hid (FM D.1.size D S):=O (J.o.2.below rl Z.o);have E:=O (d3.o.trans (a0.o.mono (by omega)));have a2:=O (cQ.keep (fun b o u _ K=>ai a0.o b o u K) a9.o);have a6:=O J.o.1;clear a5 a4 d3 K4 Z J a9 f1 g2 s4 f0 d9 s2;by_cases he:er=0;rotate_left
 .have g:=N.o;rw[aD he]at g;have g3:=O g;clear N g;go_wp2_with fail;obtain⟨F,H⟩:=eX (S.drew);have f5:Hid (ak F w.1.size 30 fm):=O (by rw[<-H];exact c8.o.drew);have f2:Hid (ak F (w.1.size+1) 32 [I 0,I 0]):=O (by rw[<-H];exact X.o.drew);have d2:Hid (ak F D.1.size 32 [I G,I pc]):=O (by rw[<-H];exact a6.o.drew);have g1:Hid (bL w F):=O (by rw[<-H];exact E.o.drew);clear c8 X a6 E a0 a2;refine al [] (fun W=>ak W D.1.size 32 [I G,I pc]) g4 ?_;rw[H];clear H;have HS:Hid (ak F D.1.size 32 [.int .i64 G,.int .i64 pc]):=d2;refine fa 0 ?_;refine aM 1 (some 17) (v:=?_) z z (by kernel_rfl) (fun _ _ _ h=>h) HS.o (GJ ⟨by rfl,?_⟩) ?_;rotate_left
  .intro W1 b7;have k0:=b7.cell 0;have k1:=b7.cell 1;simp only[FE,FH]at k0 k1;clear b7;go_simp;first|with_reducible rfl|rw[am (by omega)]
  refine fa 2 ?_;refine nm ?_;refine oD 3 fun a8 Y=>?_;refine an bN (.tmp 2) (.tmp 16) z w.1.size fm _ z z f5.o z ⟨z,by decide⟩ ?_;intro W7 V c7;have A:=O (EQ V c7);clear V c7;have e3:=O (A.o.2.CV (by have:=d4.o;omega) d2.o);refine Y _ _ (fun _=>e3.o) ?_;clear Y a8;refine oD 4 fun a8 Y=>?_;refine an br (.tmp 3) (.tmp 17) z (w.1.size+1) [I G,I pc] _ z z (A.o.2.CV (by omega) f2.o) z (cl G pc) ?_;intro W8 M Q;have C:=O (EQ M Q);clear M Q;have e9:=O (C.o.2.CV (by have:=d4.o;omega) e3.o);refine Y _ _ (fun _=>e9.o) ?_;clear Y a8;refine fa 5 ?_;refine nm ?_;refine dn ?_;go_wp2_with fail;refine ga e4 d1 bN e6 d6 br (C.o.2.CV (by omega) A.o.1) z C.o.1 z z z z z z ?_;rw[<-g3.o]
  exact⟨⟨fm,z,eQ _ _⟩,C.o.2.below (by omega) (A.o.2.below (by omega) g1.o)⟩
 .subst he;have g:=N.o;rw[am (by decide)]at g;have hf:=lV (nmf:=nmf) l a cap S (a7.o trivial) a2.o (fun W hw=>c9.o W a cap (E.o.trans (hw.mono E.o.size)) (a7.o trivial) (cQ.keep (fun b o u _ K=>ai hw b o u K) a2.o));have e5:(if co nmf l=true then cW l else (fz,(0,0),2))=R:=g;rw[e5,HN.o]at hf;clear g e5 N;go_wp2_with fail;refine hf.mono ?_;clear hf;rintro e W6 ⟨⟨ps,rfl,b6⟩,j⟩;have f7:=O (c8.o.below j);have g5:=O (X.o.below j);have f3:=O (E.o.trans (j.mono E.o.size));have f9:=O b6;have e0:=O b6.cells;have g9:=E.o.size;have g6:=X.o.lt;clear j b6 c8 X E a0 a2 a6;go_wp2_with (first
   | (with_reducible refine s0 30 ?_;refine af bN z (.tmp 2) (.tmp 21) z w.1.size ps _ z z f7.o z e0.o ?_;intro W7 V c7;have A:=O (EQ V c7);clear V c7)
   | (with_reducible refine s0 32 ?_;refine af br z (.tmp 3) (.tmp 22) z (w.1.size+1) [I R.2.1.1,I R.2.1.2] _ z z (A.o.2.CV (by omega) g5.o) z (cl _ _) ?_;intro W8 M Q;have C:=O (EQ M Q);clear M Q)
  )
  refine ga e4 d1 bN e6 d6 br (C.o.2.CV (by omega) A.o.1) e0.o.1 C.o.1 z z z z z z ?_;refine⟨⟨ps,z,?_⟩,C.o.2.below (by omega) (A.o.2.below (by omega) f3.o)⟩;refine ei.CQ (fun c hc=>?_) (f9.o.keep fun b o u j K=>?_)
  .have h1:S.1.size<=c:=hc;show w.1.size<=c;omega
  .have g8:S.1.size<=b:=j;rw[C.o.2.cell (by omega),A.o.2.cell (by omega)];exact K
def vo(x:Ex):Prop:=∀ (cs1 cs2:List Fr) (W:Fk),ExL (fun _=>True) W cs1 x->ExL (fun _=>True) W cs2 x->Jq prog 46 #[.agg cs1.toArray,.agg cs2.toArray] W (sk W)
theorem tW(k n:Int)(s:ByteArray)(sl:Int)(lo:Bool)(E:Int)(args:List Ex)(IH:∀x∈args,vo x):vo (.mk k n s sl lo E args):=by
 intro d7 b5 w c9 b9;obtain⟨a8,b7,a9⟩:=en;have d9:prog.follows .mixedOrders=true:=by kernel_rfl
 unfold ExL at c9 b9;obtain⟨H,c1,a0,a2,d0⟩:=c9;obtain⟨N,c2,a3,-,d6⟩:=b9;have b6:dT w H args:=d0;have d2:dT w N args:=d6;obtain⟨g,hN⟩:∃g,args.length=g:=⟨_,rfl⟩;rw[hN]at a0 a3 a2;have e8:Hid (d7=gv k n s sl lo E (.slice H g c1)):=O a0;have e1:Hid (b5=gv k n s sl lo E (.slice N g c2)):=O a3;have Z:=O hN;have e2:=O b6;have e6:=O d2;have e7:=O IH;have d3:=O fun _:True=>a2;clear a0 a3 a2 d0 d6 b6 d2 IH hN;go_enter func46,ntmps46;refine wk fun V J=>?_;go_wp2_with (first
  | ((with_reducible refine cp 2 (.box 58 _) ?_);refine aJ rfl (.tmp 0) rfl d7 rfl w.1.size rfl ?_;intro M k1 b1 b8;have a1:=O k1;have X:=O b1;clear k1 b1)
  | ((with_reducible refine cp 3 (.box 58 _) ?_);refine aJ rfl (.tmp 1) rfl b5 rfl (w.1.size+1) b8 ?_;intro C k2 b2 s2;have K2:=O k2;have Y:=O b2;clear k2 b2)
  |fail)
 refine J.o _ _ ?_;clear J V;obtain⟨z,Q⟩:∃z,w.1.size=z:=⟨_,rfl⟩;rw[Q]at a1 K2;rw[Q];have A:Hid (FM w.1.size w C/\ak C z 58 (gv k n s sl lo E (.slice H g c1))/\ak C (z+1) 58 (gv k n s sl lo E (.slice N g c2))):=O (by rw[<-e8.o,<-e1.o];have e3:=X.o.trans (Y.o.mono (by have:=X.o.size;omega));exact⟨e3,a1.o.below Y.o,K2.o⟩)
 have HZ:=O Q;clear a1 K2 X Y b8 s2 Q;refine wk fun V J=>?_;have p0:C.cell? ⟨z,0,none⟩=some (.int .i64 k):=A.o.2.1.cell 0;have p1:C.cell? ⟨z,1,none⟩=some (.int .i64 n):=A.o.2.1.cell 1;have p2:C.cell? ⟨z,2,none⟩=some (.string s):=A.o.2.1.cell 2;have p3:C.cell? ⟨z,3,none⟩=some (.int .i64 sl):=A.o.2.1.cell 3;have p4:C.cell? ⟨z,4,none⟩=some (.bool lo):=A.o.2.1.cell 4;have p5:C.cell? ⟨z,5,none⟩=some (.int .i64 E):=A.o.2.1.cell 5;have p6:C.cell? ⟨z,6,none⟩=some (.slice H g c1):=A.o.2.1.cell 6;have q0:C.cell? ⟨z+1,0,none⟩=some (.int .i64 k):=A.o.2.2.cell 0;have q1:C.cell? ⟨z+1,1,none⟩=some (.int .i64 n):=A.o.2.2.cell 1;have q2:C.cell? ⟨z+1,2,none⟩=some (.string s):=A.o.2.2.cell 2
 have q3:C.cell? ⟨z+1,3,none⟩=some (.int .i64 sl):=A.o.2.2.cell 3;have q4:C.cell? ⟨z+1,4,none⟩=some (.bool lo):=A.o.2.2.cell 4;have q5:C.cell? ⟨z+1,5,none⟩=some (.int .i64 E):=A.o.2.2.cell 5;have q6:C.cell? ⟨z+1,6,none⟩=some (.slice N g c2):=A.o.2.2.cell 6;go_wp2_with fail;refine J.o _ _ ?_;clear J V p0 p1 p2 p3 p4 p5 p6 q0 q1 q2 q3 q4 q5 q6;refine wk fun V J=>?_;go_wp2_with fail;go_loopg [5] g (fun x iv wr=>∃i:Nat,i<=g/\x=g-i/\iv=I i/\Hid (FM w.1.size w wr/\ak wr z 58 (gv k n s sl lo E (.slice H g c1))/\ak wr (z+1) 58 (gv k n s sl lo E (.slice N g c2))));case atStart=>exact⟨0,FX _,rfl,rfl,A⟩
 case round=>
  clear A;obtain⟨i,hi,rfl,rfl,A⟩:=hrel;have p6:wr.cell? ⟨z,6,none⟩=some (.slice H g c1):=A.o.2.1.cell 6;by_cases a4:i<g
  .have f1:(i:Int)< (g:Int):=by omega
   have e9:(0:Int)<=(i:Int):=by omega
   have e0:Hid (wrap64 ((i:Int)+1)=((i+1:Nat):Int)):=O (by have h1:=(d3.o trivial).1;have h2:=(d3.o trivial).2;have:=Gi ((i:Int)+1) (by omega);rw[this];omega)
   obtain⟨D,hV⟩:∃D,wr.drew=D:=⟨_,rfl⟩;have G:Hid (FM w.1.size w D/\ak D z 58 (gv k n s sl lo E (.slice H g c1))/\ak D (z+1) 58 (gv k n s sl lo E (.slice N g c2))):=O (by rw[<-hV];exact⟨A.o.1.trans (FB _ _).drew,A.o.2.1.drew,A.o.2.2.drew⟩);obtain⟨b1,o1,U,rfl,c8,d8⟩:=dT.at (dT.below e2.o G.o.1) (j:=i) (by rw[Z.o];exact a4);obtain⟨b2,o2,S,rfl,d1,b4⟩:=dT.at (dT.below e6.o G.o.1) (j:=i) (by rw[Z.o];exact a4);have d4:args.getD i aT∈args:=by rw[FD,FC (by rw[Z.o];exact a4)];exact Gy _
   have d5:=e7.o _ d4;generalize args.getD i aT=x at *;have a7:=O d5;have R:Hid (ExL (fun _=>True) D U x/\ExL (fun _=>True) D S x):=O ⟨d8,b4⟩;have a6:Hid (D.rangeAt b1 (o1+i*7) U/\D.rangeAt b2 (o2+i*7) S):=O ⟨c8,d1⟩;clear d5 d8 b4 c8 d1 d4;go_wp2_with fail;refine al [] (fun W'=>FM D.1.size D W') d9 ?_;rw[hV];clear hV p6 A;have F:Hid (FM D.1.size D D):=O (FB _ _);refine tk 0 (some 62) F ?_;refine tf (fun M=>M.cell? ⟨z,6,none⟩=some (.slice (some ⟨b1,o1,none⟩) g c1)) 1 (some 63) F (fun M a5=> (G.o.2.1.below a5).cell 6) ?_;refine tk 2 (some 64) F ?_;refine tk 3 (some 65) F ?_;refine nm ?_
   refine tl 4 66 F 58 65 b1 (o1+i*7) U a8 (fun W hS=>fun j u hu=>ai hS _ _ _ (a6.o.1 j u hu)) b7 a9 (by rw[R.o.1.cells.1];exact be) ?_;refine tk 5 (some 67) F ?_;refine tf (fun M=>M.cell? ⟨z+1,6,none⟩=some (.slice (some ⟨b2,o2,none⟩) g c2)) 6 (some 68) F (fun M a5=> (G.o.2.2.below a5).cell 6) ?_;refine tk 7 (some 69) F ?_;refine nm ?_;refine tk 8 (some 70) F ?_;refine tl 9 71 F 58 70 b2 (o2+i*7) S a8 (fun W hS=>fun j u hu=>ai hS _ _ _ (a6.o.2 j u hu)) b7 a9 (by rw[R.o.2.cells.1];exact be) ?_;refine nm ?_;refine oD 10 fun e5 hK=>?_;go_simp;refine(a7.o U S D R.o.1 R.o.2).mono ?_;rintro e W3 ⟨rfl,hb⟩;have K:=O hb;refine hK _ _ (fun _=>K.o) ?_;clear hK e5 hb;try refine nm ?_
   refine tk 11 (some 73) K ?_;refine nm ?_;refine dn ?_;have e4:Hid (FM w.1.size w W3/\ak W3 z 58 (gv k n s sl lo E (.slice (some ⟨b1,o1,none⟩) g c1))/\ak W3 (z+1) 58 (gv k n s sl lo E (.slice (some ⟨b2,o2,none⟩) g c2))):=O ⟨G.o.1.trans (K.o.mono G.o.1.size),G.o.2.1.below K.o,G.o.2.2.below K.o⟩;clear F K G R a6 a7;go_wp2_with fail;go_roundg (g- (i+1));case measure=>omega
   case rel=>exact⟨i+1,by omega,rfl,congrArg (Gr .i64) e0.o,e4⟩
  .obtain rfl:i=g:=by omega
   have f0:¬ (i:Int)< (i:Int):=by omega
   go_wp2_with fail;refine J.o _ _ ?_;go_wp2_with fail;go_ret;exact⟨rfl,A.o.1⟩
mutual
theorem ig:∀x:Ex,vo x
 | .mk k n s sl lo op args=>tW k n s sl lo op args (nM args)
theorem nM:∀ (l:List Ex),∀x∈l,vo x
 | [],x,hx=>by cases hx
 |y::r,x,hx=>by
  by_cases e:x=y
  .rw[e]
   exact ig y
  .exact nM r x ((FQ.1 hx).resolve_left e)
end
def nK(l:List St):Prop:=∀ (a1 a2:Option Addr) (c1 c2:Nat) (W:Fk),aF l.length c1->aE (fun _=>True) W a1 0 l->aE (fun _=>True) W a2 0 l->Jq prog 18 #[.slice a1 l.length c1,.slice a2 l.length c2] W (sk W)
def yf:St->Prop
 | .mk _ _ _ _ _ _ _ body els _ _ _ _=>nK body/\nK els
theorem ka(l:List St)(j7:∀s∈l,yf s):nK l:=by
 intro a1 a2 c1 c2 w g3 N X;let ⟨i9,l4,j6⟩:=hj
 let ⟨d5,b7,b9⟩:=en
 let ⟨i6,z6,f4,f6,f3⟩:=ki
 have l9:prog.follows .mixedOrders=true:=by kernel_rfl
 obtain⟨b4,hN⟩:=eX l.length;rw[hN]at g3 ⊢;have HN:=O hN;have H1:=O N;have H2:=O X;have o0:=O j7;have k6:=O fun _:True=>g3;clear g3 N X j7 hN;go_enter func18,ntmps18;refine wk fun KK d7=>?_;go_wp2;apply d7;clear d7 KK;refine wk fun KK d7=>?_;go_wp2;apply d7;clear d7 KK;refine wk fun KK d7=>?_;go_wp2;go_loopg [5] b4 (fun x iv wr=>∃i:Nat,i<=b4/\x=b4-i/\iv=I i/\Hid (FM w.1.size w wr));case atStart=>exact⟨0,FX _,z,z,O (FB _ _)⟩
 case round=>
  obtain⟨i,hi,rfl,rfl,HB⟩:=hrel;by_cases f9:i<b4
  .have p6:(i:Int)< (b4:Int):=by omega
   have o5:(0:Int)<=(i:Int):=by omega
   have k2:Hid (wrap64 ((i:Int)+1)=((i+1:Nat):Int)):=O (by have N:=(k6 trivial).1;have X:=(k6 trivial).2;have:=Gi ((i:Int)+1) (by omega);rw[this];omega)
   obtain⟨Q,hV⟩:=eX wr.drew;have e4:Hid (FM w.1.size w Q):=O (by rw[<-hV];exact HB.trans (FB _ _).drew);obtain⟨b1,o1,b6,rfl,-,k7,l6⟩:=(H1.Do e4).at i (by rw[HN.o];exact f9);obtain⟨b2,o2,d2,rfl,-,j9,j5⟩:=(H2.Do e4).at i (by rw[HN.o];exact f9);have i7:l.getD i default∈l:=by rw[FD,FC (by rw[HN.o];exact f9)];exact Gy _
   have M:=o0 _ i7;generalize l.getD i default=s at *;let ⟨k,U,V,S,t,x,y,body,els,id,sl,ot,lo⟩:=s
   unfold bX at l6 j5;let ⟨h1,a3,c9,b8,c8,b5,e5,h7,g5,k9,f0,j3,l5⟩:=l6
   obtain⟨a0,a4,d1,d3,d4,d0,e6,h9,h3,-,e9,-,i8⟩:=j5;obtain⟨NB,g9⟩:=eX body.length;obtain⟨NE,i0⟩:=eX els.length;rw[g9]at e5 e6;rw[i0]at e5 e6;have f2:Hid (nK body/\nK els):=O M;have e8:=O (EQ g9 i0);have R:=O (EQ h7 h9);have HY:=O (EQ g5 h3);have e2:=O (EQ k9 (EQ f0 e9));have e3:=O (EQ j3 (EQ l5 i8));have g8:Hid (b6.length=25/\∀v∈b6,v.oneCell'=true):=O (by rw[show b6=cO k U V S t h1 a3 (.slice c9 NB c8) (.slice b8 NE b5) id sl ot lo from e5];exact hk h7.cells g5.cells);have h8:Hid (d2.length=25/\∀v∈d2,v.oneCell'=true):=O (by rw[show d2=cO k U V S t a0 a4 (.slice d1 NB d4) (.slice d3 NE d0) id sl ot lo from e6];exact hk h9.cells h3.cells)
   have e7:Hid (b6=cO k U V S t h1 a3 (.slice c9 NB c8) (.slice b8 NE b5) id sl ot lo/\d2=cO k U V S t a0 a4 (.slice d1 NB d4) (.slice d3 NE d0) id sl ot lo):=O ⟨e5,e6⟩;have j4:Hid (Q.rangeAt b1 (o1+i*25) b6/\Q.rangeAt b2 (o2+i*25) d2):=O ⟨fun t v hv=>by simpa using k7 t v hv,fun t v hv=>by simpa using j9 t v hv⟩;clear M h7 h9 g5 h3 k9 f0 e9 j3 l5 i8 k7 j9 i7 e5 e6 g9 i0;go_wp2;apply al [] (fun W'=>FM Q.1.size Q W') l9;rw[hV];clear hV HB;have Z:Hid (FM Q.1.size Q Q):=O (FB _ _);refine ke 0 ?_;refine tl 3 22 Z 60 21 b1 (o1+i*25) b6 i9 (fun W hS=>fun j u hu=>ai hS _ _ _ (j4.1 j u hu)) l4 j6 (by rw[g8.o.1];exact ar) ?_;refine nm ?_;refine ke 4 ?_
   refine tl 7 26 Z 60 25 b2 (o2+i*25) d2 i9 (fun W hS=>fun j u hu=>ai hS _ _ _ (j4.2 j u hu)) l4 j6 (by rw[h8.o.1];exact ar) ?_;refine nm ?_;refine cj [8,9] (by kernel_rfl) ?_ (by decide);intro i hi;simp only[FQ,FO,or_false]at hi;rcases hi with rfl|rfl
   .refine⟨_,z,z,fun G H=>?_⟩;obtain⟨J,f0⟩:=eX Q.1.size;refine aw f4 f6 f3 z J f0 ?_;intro X1 D g o6;have f5:=O (Z.trans (g.mono Z.size));have m8:=O D;have l3:Hid (Q.1.size<=J/\J<X1.1.size):=O ⟨by have:=Z.size;omega,D.lt⟩;change G (Gf _ (some 6) _) X1;apply H _ _ (fun _=>f5);clear H G D g;refine nm ?_;refine oD 9 fun G H=>?_;obtain⟨K,e9⟩:∃b,X1.1.size=b:=⟨_,z⟩;refine aw f4 f6 f3 z K e9 ?_;intro X2 D g o9;have k1:=O (f5.o.trans (g.mono f5.o.size));have m0:=O D;have m9:Hid (Q.1.size<=K/\K<X2.1.size):=O ⟨by have:=f5.o.size;omega,D.lt⟩;have l7:=O (m8.o.below g);have k0:Hid (J≠K):=O (by have N:=l3.o.2;omega);change G (Gf _ (some 7) _) X2;refine H _ _ (fun _=>k1.o) ?_;clear H G D g;refine nm ?_
    refine oD 10 fun G H=>?_;refine an ar (.tmp 6) (.tmp 22) z J b6 _ z z l7.o z g8.o ?_;intro X3 D Y;have j2:=O (Y.below l3.o.1 k1.o);have m7:=O D;have n6:=O (Y.CV (by have:=k0.o;omega) m0.o);change G (Gf _ none _) X3;refine H _ _ (fun _=>j2.o) ?_;clear H G D Y;refine oD 11 fun G H=>?_;refine an ar (.tmp 7) (.tmp 26) z K d2 _ z z n6.o z h8.o ?_;intro X4 D Y;have i5:=O (Y.below m9.o.1 j2.o);have n0:=O D;have n9:=O (Y.CV (by have:=k0.o;omega) m7.o);change G (Gf _ none _) X4;refine H _ _ (fun _=>i5.o) ?_;clear H G D Y;try simp only[Gf]
    refine dn ?_;have HV:=O i5.o;have A:Hid (ak X4 J 60 (cO k U V S t h1 a3 (.slice c9 NB c8) (.slice b8 NE b5) id sl ot lo)/\ak X4 K 60 (cO k U V S t a0 a4 (.slice d1 NB d4) (.slice d3 NE d0) id sl ot lo)):=O (by rw[<-e7.o.1,<-e7.o.2];exact⟨n9.o,n0.o⟩);generalize X4=U0 at *;have F:=O (bR z R.o.1.cells.1 HY.o.1.cells.1 (C:=cO k U V S t h1 a3 (.slice c9 NB c8) (.slice b8 NE b5) id sl ot lo));have E:=O (bR z R.o.2.cells.1 HY.o.2.cells.1 (C:=cO k U V S t a0 a4 (.slice d1 NB d4) (.slice d3 NE d0) id sl ot lo));have p0:=(A.o.1.cell 0).trans F.o.1;have p1:=(A.o.1.cell 1).trans F.o.2.1;have p2:=(A.o.1.cell 2).trans F.o.2.2.1;have p3:=(A.o.1.cell 3).trans F.o.2.2.2.1
    have p4:=(A.o.1.cell 4).trans F.o.2.2.2.2.1;have h4:=(A.o.1.cell 21).trans F.o.2.2.2.2.2.2.2.1;have i1:=(A.o.1.cell 22).trans F.o.2.2.2.2.2.2.2.2.1;have g4:=(A.o.1.cell 23).trans F.o.2.2.2.2.2.2.2.2.2.1;have g6:=(A.o.1.cell 24).trans F.o.2.2.2.2.2.2.2.2.2.2;have q0:=(A.o.2.cell 0).trans E.o.1;have q1:=(A.o.2.cell 1).trans E.o.2.1;have q2:=(A.o.2.cell 2).trans E.o.2.2.1;have q3:=(A.o.2.cell 3).trans E.o.2.2.2.1;have q4:=(A.o.2.cell 4).trans E.o.2.2.2.2.1;have h0:=(A.o.2.cell 21).trans E.o.2.2.2.2.2.2.2.1;have i3:=(A.o.2.cell 22).trans E.o.2.2.2.2.2.2.2.2.1;have i4:=(A.o.2.cell 23).trans E.o.2.2.2.2.2.2.2.2.2.1;have f7:=(A.o.2.cell 24).trans E.o.2.2.2.2.2.2.2.2.2.2
    have e0:=O (EQ (ExL.sub R.o.1 HV.o) (ExL.sub R.o.2 HV.o));have d8:Hid (U0.rangeAt J 5 h1/\U0.rangeAt K 5 a0):=O (by have N:=A.o.1;have X:=A.o.2;rw[jg]at N X;exact⟨ak.range N z,ak.range X z⟩)
    go_wp2_with (first
     | ((with_reducible refine cp 82 (.load 58 _) ?_);refine Gn z 58 (.tmp 81) z J 5 z h1 d5 d8.o.1 b7 b9 (by rw[R.o.1.cells.1];exact be) ?_)
     | ((with_reducible refine cp 84 (.load 58 _) ?_);refine Gn z 58 (.tmp 83) z K 5 z a0 d5 d8.o.2 b7 b9 (by rw[R.o.2.cells.1];exact be) ?_)
     |fail)
    refine(ig x h1 a0 U0 e0.o.1 e0.o.2).mono ?_;clear p0 p1 p2 p3 p4 h4 i1 g4 g6 q0 q1 q2 q3 q4 h0 i3 i4 f7 e0 d8;rintro e U1 ⟨rfl,g⟩;have a6:=O (HV.o.trans (g.mono HV.o.size));have a7:=O (EQ (A.o.1.below g) (A.o.2.below g));clear g A HV;have e1:=O (EQ (ExL.sub HY.o.1 a6.o) (ExL.sub HY.o.2 a6.o));have d6:Hid (U1.rangeAt J 12 a3/\U1.rangeAt K 12 a4):=O (by have N:=a7.o.1;have X:=a7.o.2;rw[jj]at N X;have g1:=ak.range N z;have g2:=ak.range X z;rw[show (Gr .i64 k::I U::I V:: .string S:: .string t::h1).length=12 by simp[R.o.1.cells.1]]at g1;rw[show (Gr .i64 k::I U::I V:: .string S:: .string t::a0).length=12 by simp[R.o.2.cells.1]]at g2;exact⟨g1,g2⟩)
    go_wp2_with (first
     | ((with_reducible refine cp 89 (.load 58 _) ?_);refine aS z 58 (.tmp 88) z J 12 z a3 d5 d6.o.1 b7 b9 (by rw[HY.o.1.cells.1];exact be) ?_)
     | ((with_reducible refine cp 91 (.load 58 _) ?_);refine aS z 58 (.tmp 90) z K 12 z a4 d5 d6.o.2 b7 b9 (by rw[HY.o.2.cells.1];exact be) ?_)
     |fail)
    refine(ig y a3 a4 U1 e1.o.1 e1.o.2).mono ?_;clear e1 d6;rintro e U2 ⟨rfl,g⟩;have a9:=O (a6.o.trans (g.mono a6.o.size));have a5:=O (EQ (a7.o.1.below g) (a7.o.2.below g));clear g a7 a6;have i2:=(a5.o.1.cell 19).trans F.o.2.2.2.2.2.1;have h5:=(a5.o.2.cell 19).trans E.o.2.2.2.2.2.1;have M:=f2.o.1 c9 d1 c8 d4 U2 e2.o.1 (e2.o.2.1.Do a9.o) (e2.o.2.2.Do a9.o);rw[e8.o.1]at M;go_wp2_with fail;refine M.mono ?_;clear M i2 h5;rintro e U3 ⟨rfl,g⟩;have a8:=O (a9.o.trans (g.mono a9.o.size));have d9:=O (EQ (a5.o.1.below g) (a5.o.2.below g));clear g a5 a9;have f8:=(d9.o.1.cell 20).trans F.o.2.2.2.2.2.2.1;have h6:=(d9.o.2.cell 20).trans E.o.2.2.2.2.2.2.1
    have M:=f2.o.2 b8 d3 b5 d0 U3 e3.o.1 (e3.o.2.1.Do a8.o) (e3.o.2.2.Do a8.o);rw[e8.o.2]at M;go_wp2_with fail;refine M.mono ?_;clear M f8 h6;rintro e U4 ⟨rfl,g⟩;have g7:=O (e4.o.trans ((a8.o.trans (g.mono a8.o.size)).mono e4.o.size));clear g d9 a8;go_wp2_with fail;go_roundg (b4- (i+1));case measure=>omega
    case rel=>exact⟨i+1,by omega,z,congrArg (Gr .i64) k2.o,g7⟩
   .refine⟨_,z,z,fun G H=>?_⟩;obtain⟨K,n8⟩:∃b,Q.1.size=b:=⟨_,z⟩;refine aw f4 f6 f3 z K n8 ?_;intro X5 D g o8;have f1:=O (Z.o.trans (g.mono Z.o.size));have m1:=O D;have j8:Hid (Q.1.size<=K/\K<X5.1.size):=O ⟨by have:=Z.o.size;omega,D.lt⟩;change G (Gf _ (some 7) _) X5;refine H _ _ (fun _=>f1.o) ?_;clear H G D g;refine nm ?_;refine oD 8 fun G H=>?_;obtain⟨J,m2⟩:∃b,X5.1.size=b:=⟨_,z⟩;refine aw f4 f6 f3 z J m2 ?_;intro X6 D g p5;have k8:=O (f1.o.trans (g.mono f1.o.size));have n5:=O D;have m5:Hid (Q.1.size<=J/\J<X6.1.size):=O ⟨by have:=f1.o.size;omega,D.lt⟩;have m3:=O (m1.o.below g);have l2:Hid (J≠K):=O (by have N:=j8.o.2;omega);change G (Gf _ (some 6) _) X6;refine H _ _ (fun _=>k8.o) ?_;clear H G D g
    refine nm ?_;refine oD 10 fun G H=>?_;refine an ar (.tmp 6) (.tmp 22) z J b6 _ z z n5.o z g8.o ?_;intro X7 D Y;have j1:=O (Y.below m5.o.1 k8.o);have m6:=O D;have l8:=O (Y.CV (by have:=l2.o;omega) m3.o);change G (Gf _ none _) X7;refine H _ _ (fun _=>j1.o) ?_;clear H G D Y;refine oD 11 fun G H=>?_;refine an ar (.tmp 7) (.tmp 26) z K d2 _ z z l8.o z h8.o ?_;intro X8 D Y;have j0:=O (Y.below j8.o.1 j1.o);have n7:=O D;have m4:=O (Y.CV (by have:=l2.o;omega) m6.o);change G (Gf _ none _) X8;refine H _ _ (fun _=>j0.o) ?_;clear H G D Y;try simp only[Gf]
    refine dn ?_;have HV:=O j0.o;have A:Hid (ak X8 J 60 (cO k U V S t h1 a3 (.slice c9 NB c8) (.slice b8 NE b5) id sl ot lo)/\ak X8 K 60 (cO k U V S t a0 a4 (.slice d1 NB d4) (.slice d3 NE d0) id sl ot lo)):=O (by rw[<-e7.o.1,<-e7.o.2];exact⟨m4.o,n7.o⟩);generalize X8=U0 at *;have F:=O (bR z R.o.1.cells.1 HY.o.1.cells.1 (C:=cO k U V S t h1 a3 (.slice c9 NB c8) (.slice b8 NE b5) id sl ot lo));have E:=O (bR z R.o.2.cells.1 HY.o.2.cells.1 (C:=cO k U V S t a0 a4 (.slice d1 NB d4) (.slice d3 NE d0) id sl ot lo));have p0:=(A.o.1.cell 0).trans F.o.1;have p1:=(A.o.1.cell 1).trans F.o.2.1;have p2:=(A.o.1.cell 2).trans F.o.2.2.1;have p3:=(A.o.1.cell 3).trans F.o.2.2.2.1
    have p4:=(A.o.1.cell 4).trans F.o.2.2.2.2.1;have h4:=(A.o.1.cell 21).trans F.o.2.2.2.2.2.2.2.1;have i1:=(A.o.1.cell 22).trans F.o.2.2.2.2.2.2.2.2.1;have g4:=(A.o.1.cell 23).trans F.o.2.2.2.2.2.2.2.2.2.1;have g6:=(A.o.1.cell 24).trans F.o.2.2.2.2.2.2.2.2.2.2;have q0:=(A.o.2.cell 0).trans E.o.1;have q1:=(A.o.2.cell 1).trans E.o.2.1;have q2:=(A.o.2.cell 2).trans E.o.2.2.1;have q3:=(A.o.2.cell 3).trans E.o.2.2.2.1;have q4:=(A.o.2.cell 4).trans E.o.2.2.2.2.1;have h0:=(A.o.2.cell 21).trans E.o.2.2.2.2.2.2.2.1;have i3:=(A.o.2.cell 22).trans E.o.2.2.2.2.2.2.2.2.1;have i4:=(A.o.2.cell 23).trans E.o.2.2.2.2.2.2.2.2.2.1;have f7:=(A.o.2.cell 24).trans E.o.2.2.2.2.2.2.2.2.2.2
    have e0:=O (EQ (ExL.sub R.o.1 HV.o) (ExL.sub R.o.2 HV.o));have d8:Hid (U0.rangeAt J 5 h1/\U0.rangeAt K 5 a0):=O (by have N:=A.o.1;have X:=A.o.2;rw[jg]at N X;exact⟨ak.range N z,ak.range X z⟩)
    go_wp2_with (first
     | ((with_reducible refine cp 82 (.load 58 _) ?_);refine Gn z 58 (.tmp 81) z J 5 z h1 d5 d8.o.1 b7 b9 (by rw[R.o.1.cells.1];exact be) ?_)
     | ((with_reducible refine cp 84 (.load 58 _) ?_);refine Gn z 58 (.tmp 83) z K 5 z a0 d5 d8.o.2 b7 b9 (by rw[R.o.2.cells.1];exact be) ?_)
     |fail)
    refine(ig x h1 a0 U0 e0.o.1 e0.o.2).mono ?_;clear p0 p1 p2 p3 p4 h4 i1 g4 g6 q0 q1 q2 q3 q4 h0 i3 i4 f7 e0 d8;rintro e U1 ⟨rfl,g⟩;have a6:=O (HV.o.trans (g.mono HV.o.size));have a7:=O (EQ (A.o.1.below g) (A.o.2.below g));clear g A HV;have e1:=O (EQ (ExL.sub HY.o.1 a6.o) (ExL.sub HY.o.2 a6.o));have d6:Hid (U1.rangeAt J 12 a3/\U1.rangeAt K 12 a4):=O (by have N:=a7.o.1;have X:=a7.o.2;rw[jj]at N X;have g1:=ak.range N z;have g2:=ak.range X z;rw[show (Gr .i64 k::I U::I V:: .string S:: .string t::h1).length=12 by simp[R.o.1.cells.1]]at g1;rw[show (Gr .i64 k::I U::I V:: .string S:: .string t::a0).length=12 by simp[R.o.2.cells.1]]at g2;exact⟨g1,g2⟩)
    go_wp2_with (first
     | ((with_reducible refine cp 89 (.load 58 _) ?_);refine aS z 58 (.tmp 88) z J 12 z a3 d5 d6.o.1 b7 b9 (by rw[HY.o.1.cells.1];exact be) ?_)
     | ((with_reducible refine cp 91 (.load 58 _) ?_);refine aS z 58 (.tmp 90) z K 12 z a4 d5 d6.o.2 b7 b9 (by rw[HY.o.2.cells.1];exact be) ?_)
     |fail)
    refine(ig y a3 a4 U1 e1.o.1 e1.o.2).mono ?_;clear e1 d6;rintro e U2 ⟨rfl,g⟩;have a9:=O (a6.trans (g.mono a6.size));have a5:=O (EQ (a7.1.below g) (a7.2.below g));clear g a7 a6;have i2:=(a5.1.cell 19).trans F.2.2.2.2.2.1;have h5:=(a5.2.cell 19).trans E.2.2.2.2.2.1;have M:=f2.1 c9 d1 c8 d4 U2 e2.1 (e2.2.1.Do a9) (e2.2.2.Do a9);rw[e8.o.1]at M;go_wp2_with fail;apply M.mono;clear M i2 h5;rintro e U3 ⟨rfl,g⟩;have a8:=O (a9.trans (g.mono a9.size));have d9:=O (EQ (a5.1.below g) (a5.2.below g));clear g a5 a9;have f8:=(d9.1.cell 20).trans F.2.2.2.2.2.2.1;have h6:=(d9.2.cell 20).trans E.2.2.2.2.2.2.1;have M:=f2.2 b8 d3 b5 d0 U3 e3.1 (e3.2.1.Do a8) (e3.2.2.Do a8);rw[e8.o.2]at M;go_wp2_with fail
    apply M.mono;clear M f8 h6;rintro e U4 ⟨rfl,g⟩;have g7:=O (e4.trans ((a8.trans (g.mono a8.size)).mono e4.size));clear g d9 a8;go_wp2;go_roundg (b4- (i+1));case measure=>omega
    case rel=>exact⟨i+1,by omega,z,congrArg (Gr .i64) k2,g7⟩
  .obtain rfl:i=b4:=by omega
   have o7:¬ (i:Int)< (i:Int):=by omega
   go_wp2;apply d7;go_wp2;go_ret;exact⟨z,HB⟩
mutual
theorem vf:∀s:St,yf s
 | .mk k l c s t x y body els id sl ot lo=>by
  show nK body/\nK els
  exact⟨ka body (ij body),ka els (ij els)⟩
theorem ij:∀ (l:List St),∀s∈l,yf s
 | [],s,hs=>by cases hs
 |y::r,s,hs=>by
  by_cases e:s=y
  .rw[e]
   exact vf y
  .exact ij r s ((FQ.1 hs).resolve_left e)
end
theorem wV(l:List St):nK l:=ka l (ij l)
end Go.Proofs.YtgppcdfgdaggjaaGreatDoor
