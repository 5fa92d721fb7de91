/- Texts laid together. No condition but what each law says. -/
import Derived.Test.YtgppcdfgdaggjaaGreatDoorF19
set_option maxRecDepth 100000
set_option maxHeartbeats 8000000
namespace Go.Proofs.YtgppcdfgdaggjaaGreatDoor
open Go.RowKit Go.Maps Go.Proofs.Tryz
open Go.RowKit renaming Below→FM
open Go renaming Ending→GP,World→Fk,Value→Fr,bodyPost→Gb,Calls→Jq,wpList_load_mid→Gn
open List renaming mem_cons→FQ,not_mem_nil→FO,getD_eq_getElem?_getD→FD,getElem?_eq_getElem→FC,getElem?_set_ne→Ge,cons_append→GM,getElem?_cons_succ→FH,getElem?_cons_zero→FE
open Go.Act renaming put→Gf
open And renaming intro→EQ
open Go.RowKit.Below renaming refl→FB
open Go.Code renaming wp→FR
open Go.IntWalk renaming wrap64_in→Gi
open Go.Value renaming int→Gr,oneCell'→GZ
open Go.World renaming setCell→Gc
open Bool renaming and_eq_true→FG
open Nat renaming lt_of_lt_of_le→FJ,le_refl→FL
open _root_.Array renaming getElem?_eq_some_iff→FT
variable {b g j m n n0:Nat}{v v0 v1 v2 v3 v4 v5 v6 v7:Fr}{V W w:Fk}{l l2 l3 l4:List Fr}{s t:ByteArray}{a a0 a1:Option Addr}{D D0:DF}{p0 p1:Int}{e:Ex}
def xC(ok:Nat->Prop)(w:Fk)(R:DF×Ex)(e:GP)(w':Fk):Prop:=(∃ds xs,e= .returned (.tuple #[.agg ds.toArray,.agg xs.toArray])/\aG ok w' R.1 ds/\ExL (w.1.size<=·) w' xs R.2)/\FM w.1.size w w'
def gv(k n:Int)(s:ByteArray)(sl:Int)(lo:Bool)(o:Int)(av:Fr):List Fr:=[.int .i64 k,.int .i64 n,.string s,.int .i64 sl,.bool lo,.int .i64 o,av]
structure Xq (w:Fk) (ok:Nat->Prop) (D:DF) (cs ec:List Fr) (pl pc:Int) (W:Fk):Prop where
 b:FM w.1.size w W
 f:ak W w.1.size 109 cs
 e:ak W (w.1.size+1) 58 ec
 p:ak W (w.1.size+1+1) 32 [.int .i64 pl,.int .i64 pc]
 z:ak W (w.1.size+1+1+1) 109 nx
 y:ak W (w.1.size+1+1+1+1) 58 yH
 d:aG ok W D cs
section
variable {w W W':Fk} {ok:Nat→Prop} {D D':DF} {cs cs' ec ec':List Fr} {pl pc:Int}
theorem Xq.DZ(h:Xq w ok D cs ec pl pc W)(C:∀c,ok c->c<w.1.size)(g:FM (w.1.size+5) W W'):Xq w ok D cs ec pl pc W':=⟨h.b.trans (g.mono (by omega)),h.f.of (g.block _ (by omega)),h.e.of (g.block _ (by omega)),h.p.of (g.block _ (by omega)),h.z.of (g.block _ (by omega)),h.y.of (g.block _ (by omega)),h.d.keep fun b o u j A=>by have:=C b j;rw[<-A];simp[World.cell?,g.block b (by omega)]⟩
theorem Xq.below(h:Xq w ok D cs ec pl pc W)(g:bL W W'):Xq w ok D cs ec pl pc W':=⟨h.b.trans (g.mono h.b.size),h.f.below g,h.e.below g,h.p.below g,h.z.below g,h.y.below g,h.d.below g⟩
theorem Xq.ch(h:Xq w ok D cs ec pl pc W)(j:∀c,ok c->c<w.1.size)(A:w.1.size+5<=b)(g:Ch b W W'):Xq w ok D cs ec pl pc W':=
 ⟨g.below (by omega) h.b,g.CV (by omega) h.f,g.CV (by omega) h.e,g.CV (by omega) h.p,g.CV (by omega) h.z,g.CV (by omega) h.y,g.df (fun e=>by have:=j _ e;omega) h.d⟩
theorem Xq.Dc(h:Xq w ok D cs ec pl pc W)(j:∀c,ok c->c<w.1.size)(hd:aG ok W D' cs')(A:ak W' w.1.size 109 cs')(g:Ch w.1.size W W'):Xq w ok D' cs' ec pl pc W':=
 ⟨g.below (by omega) h.b,A,g.CV (by omega) h.e,g.CV (by omega) h.p,g.CV (by omega) h.z,g.CV (by omega) h.y,g.df (fun e=>by have:=j _ e;omega) hd⟩
theorem Xq.Em(h:Xq w ok D cs ec pl pc W)(j:∀c,ok c->c<w.1.size)(A:ak W' (w.1.size+1) 58 ec')(g:Ch (w.1.size+1) W W'):Xq w ok D cs ec' pl pc W':=
 ⟨g.below (by omega) h.b,g.CV (by omega) h.f,A,g.CV (by omega) h.p,g.CV (by omega) h.z,g.CV (by omega) h.y,g.df (fun e=>by have:=j _ e;omega) h.d⟩
end
theorem hc{B:Nat}{x:Ex}(h:ExL (fun c=>j<=c/\c<n) W l2 x)(A:∀g,v.ownBlock=some g->g<j)(C:B<=j):gC.L (fun c=>B<=c/\v.ownBlock≠some c) W l2 x:=ExL.CQ (fun c w=>⟨by have:=w.1;omega,fun e=>by have:=A c e;have:=w.1;omega⟩) h
theorem qd{k n:Int}{sl:Int}{lo:Bool}{o:Int}{cap:Nat}:(gv k n s sl lo o (.slice a m cap)).length=7/\∀v∈gv k n s sl lo o (.slice a m cap),v.oneCell'=true:=⟨z,fun v g=>by simp only[gv,FQ,FO,or_false]at g;rcases g with rfl|rfl|rfl|rfl|rfl|rfl|rfl<;>rfl⟩
theorem wZ{ok:Nat->Prop}{cs:List Fr}{k n:Int}{sl:Int}{lo:Bool}{pc:Int}{l:List Ex}(Y:∀c,ok c->c<w.1.size)(H:Hid (Xq w ok D cs (gv k n s sl lo p0 v0) p1 pc W))(M:Hid (aL gC (w.1.size+5) W (.slice a0 l.length j) l)){R:DF×Ex}(HR:Hid (R=(D,.mk k n s sl lo p0 l)))(hU:l2.length=64:=by rfl):
  FR prog (Jp 4 (f118.body.getD .skip)) (Gb prog f118 (xC ok w R)) ⟨(v1::v2::v3::Pt w.1.size::Pt (w.1.size+1)::Pt (w.1.size+1+1)::Pt (w.1.size+1+1+1)::Pt (w.1.size+1+1+1+1)::v4::v5::v6::v7:: .slice a0 l.length j::l2).toArray,[]⟩ W:=by
 revert l2;apply aN;iterate 64 intro _
 change FR _ _ _ _ _;let ⟨du,a8,b5⟩:=cd
 let ⟨d2,a7,b8⟩:=en
 have a2:aF l.length j:=by
  let ⟨a,cap,h1,h2⟩:=M.form
  cases h1;exact h2
 have hl:=H.d.cells.1;have c6:W.cell? (ad (w.1.size+1) 6)=some v0:=by rw[H.o.e.cell];rfl
 have f6:=H.e.frozen 6;let ⟨F,hN⟩:=eX (l.length)
 have d1:=O a2;have hX:ExL (w.1.size<=·) W (gv k n s sl lo p0 (.slice a0 l.length j)) (.mk k n s sl lo p0 l):=by unfold ExL;exact⟨a0,j,z,a2,ch.CQ (fun c E=>by have:=E;omega) M.DI⟩
 have b6:=M.DI;have b4:=O b6;clear hX b6 a2 M;rw[hN];have HN:=O hN;clear hN;conv in (Jp _ _)=>whnf
 refine wk fun K1 a3=>?_;go_wp2;apply a3;clear a3 K1;have b7:Xq w ok D cs (gv k n s sl lo p0 (.slice a0 F j)) p1 pc (W.setCell (ad (w.1.size+1) 6) (.slice a0 F j)):=H.Em Y (H.e.set1 6 _) (Ch.one 6 _ W);have a9:=ch.keep (fun c o u E Z=>by have c9:=E;rw[(Ch.one 6 (.slice a0 F j) W).cell (show c≠w.1.size+1 by omega)];exact Z) b4
 have Q:=O b7;have a6:=O a9;clear b7 a9 H b4 c6 f6;generalize W.setCell _ _=V at *;let ⟨g,N⟩:=eX (gv k n s sl lo p0 (.slice a0 F j))
 have a1:g.length=7/\∀v∈g,v.oneCell'=true:=N▸qd;rw[N]at Q;have d3:=O N;clear N;go_wp2;have d4:prog.follows .mixedOrders=true:=by kernel_rfl
 let ⟨G,X⟩:=eX (V.drew)
 have A:Hid (Xq w ok D cs g p1 pc G):=O (by rw[<-X];exact Q.below (FB _ V).drew);have d5:Hid (ch (w.1.size+5<=·) G a0 0 l):=O (by rw[<-X];exact a6.keep fun b o v _ hv=>ai (FB _ V).drew b o v hv);clear Q a6;apply al [3] (fun W=>ak W w.1.size 109 cs/\ak W (w.1.size+1) 58 g) d4;rw[X];have HS:Hid (ak G w.1.size 109 cs/\ak G (w.1.size+1) 58 g):=O ⟨A.f,A.e⟩;refine tl 0 75 HS 109 3 w.1.size 0 cs du (fun W S=>S.1.whole) a8 b5 (by rw[hl];exact aj) ?_;refine tl 1 76 HS 58 4 (w.1.size+1) 0 g d2 (fun W S=>S.2.whole) a7 b8 (by rw[a1.1];exact be) ?_;refine nm ?_;refine oD 2 fun U J=>?_;refine an aj (.tmp 6) (.tmp 75) z (w.1.size+1+1+1) cs _ z z A.z z A.d.cells ?_;intro W7 k7 c7;have C:=O (EQ k7 c7);clear k7 c7
 apply J _ _ (fun _=>⟨C.2.CV (by omega) A.f,C.2.CV (by omega) A.e⟩);clear J U;refine oD 3 fun U J=>?_;refine an be (.tmp 7) (.tmp 76) z (w.1.size+1+1+1+1) g _ z z (C.2.CV (by omega) A.y) z a1 ?_;intro W8 k8 c8;have K:=O (EQ k8 c8);clear k8 c8;apply J _ _ nofun;clear J U;simp only[Gf];refine dn ?_;have d0:=K.2.df (fun e=>by have:=Y _ e;omega) (C.2.df (fun e=>by have:=Y _ e;omega) A.d);have b9:=ch.keep (fun c o u E Z=>by have c9:=E;rw[K.o.2.cell (show c≠w.1.size+1+1+1+1 by omega),C.o.2.cell (show c≠w.1.size+1+1+1 by omega)];exact Z) d5
 have a4:xC ok w R (.returned (.tuple #[.agg cs.toArray,.agg g.toArray])) W8:=by rw[HR.o];refine⟨⟨cs,g,z,d0,?_⟩,K.2.below (by omega) (C.2.below (by omega) A.b)⟩;show ExL _ _ _ (.mk k n s sl lo p0 l);rw[<-d3.o,<-HN.o];unfold ExL;exact⟨a0,j,z,d1,ch.CQ (fun c E=>by have c9:=E;show w.1.size<=c;omega) b9⟩
 have a5:=K.2.CV (show w.1.size+1+1+1≠w.1.size+1+1+1+1 by omega) C.1;have HF:=O (EQ a5 a4);clear d0 b9 a5 a4;go_wp2;exact ge a8 b5 aj a7 b8 be HF.1 hl K.1 a1.1 z z z z HF.2
theorem kG{ok:Nat->Prop}{cs:List Fr}{k n:Int}{sl:Int}{lo:Bool}{cap:Nat}{args:List Ex}{pc:Int}(a3:∀c,ok c->c<w.1.size)(h8:aF args.length cap)(k2:args.length<=10000000)(HX:Hid (dT w a args))
  (IH:Hid (∀x∈args,∀D cs xs W,(∀c,ok c->c<W.1.size)->aG ok W D cs->ExL (fun _=>True) W xs x->Jq prog 118 #[.agg cs.toArray,.agg xs.toArray,.agg #[I p0,I pc]] W (xC ok W (DF.ex (p0,pc) x D))))
  (HQ:Hid (Xq w ok D cs (gv k n s sl lo p1 (.slice a args.length cap)) p0 pc W)){R:DF×Ex}(HR:Hid (R=((DF.DI (p0,pc) args D).1,.mk k n s sl lo p1 (DF.DI (p0,pc) args D).2)))(hU:l2.length=69:=by rfl):
  FR prog (Jp 2 (f118.body.getD .skip)) (Gb prog f118 (xC ok w R)) ⟨(v0::v1::v2::Pt w.1.size::Pt (w.1.size+1)::Pt (w.1.size+1+1)::Pt (w.1.size+1+1+1)::Pt (w.1.size+1+1+1+1)::l2).toArray,[]⟩ W:=by
 revert l2;apply aN;iterate 69 intro _
 change FR _ _ _ _ _;let ⟨du,g3,g1⟩:=cd
 let ⟨m0,g4,g2⟩:=en
 let ⟨i9,z9,j0,i5,i6⟩:=em
 let ⟨i8,z8,i2,i7,j2⟩:=mm
 let ⟨i0,z0,g5,h3,h6,g7,h7⟩:=bJ sS
 have g6:prog.underlying 56=some (.slice 58):=by kernel_rfl
 obtain⟨a5,hN⟩:=eX args.length;rw[hN]at h8 HQ k2;have HN:=O hN;clear hN;have l4:=O h8;have g8:=O fun _:True=>k2;clear h8 k2;conv in (Jp _ _)=>whnf
 refine wk fun KK j9=>?_;go_wp2;apply j9;clear j9 KK;refine wk fun KK j9=>?_;go_wp2;go_loopg [12,13] a5 (fun x av iv wr=>∃ (i:Nat) (acc:List Ex) (D2:DF) (f1:List Fr),i<=a5/\x=a5-i/\iv=I i/\acc.length=i/\Hid (aL gC (w.1.size+5) wr av acc)/\Hid (Xq w ok D2 f1 (gv k n s sl lo p1 (.slice a a5 cap)) p0 pc wr)/\Hid (((DF.DI (p0,pc) (args.drop i) D2).1,acc++(DF.DI (p0,pc) (args.drop i) D2).2)=DF.DI (p0,pc) args D));case atStart=>exact⟨0,[],D,cs,Nat.zero_le _,z,z,z,O (aL.nil _ _ _),HQ,O (by simp)⟩
 case round=>
  clear HQ;obtain⟨i,acc,D2,f1,hi,rfl,rfl,b4,HG,HQ,HD⟩:=hrel;obtain⟨ga,d5,rfl,l7⟩:=HG.form;have m4:=O l7;clear l7;have d9:=O b4;clear b4;have c6:wr.cell? (ad (w.1.size+1) 6)=some (.slice a a5 cap):=by rw[HQ.o.e.cell];rfl
  by_cases j4:i<a5
  .have l8:(i:Int)< (a5:Int):=by omega
   have m3:(0:Int)<=(i:Int):=by omega
   have h8:(i:Int)+1<=9223372036854775807:=by have h1:=l4.1;have h2:=l4.2;omega
   have h0:=O fun _:True=>h8;clear h8;go_wp2;have m1:prog.follows .mixedOrders=true:=by kernel_rfl
   obtain⟨A,hV⟩:=eX wr.drew;have a4:Hid (Xq w ok D2 f1 (gv k n s sl lo p1 (.slice a a5 cap)) p0 pc A):=O (by rw[<-hV];exact HQ.below (FB _ wr).drew);have d8:Hid (aL gC (w.1.size+5) A (.slice ga acc.length d5) acc):=O (by rw[<-hV];exact HG.below (FB _ wr).drew);have hl:=a4.d.cells.1;obtain⟨b2,f7,xs,rfl,l6,k1⟩:=dT.at (dT.below HX a4.b) (j:=i) (by rw[HN.o];exact j4);have m2:args.getD i aT∈args:=by rw[FD,FC (by rw[HN.o];exact j4)];exact List.getElem_mem _
   have l3:=fun W=>IH _ m2 D2 f1 xs W;have l5:args.drop i=args.getD i aT::args.drop (i+1):=by rw[List.drop_eq_getElem_cons (by rw[HN.o];exact j4),FD,FC (by rw[HN.o];exact j4)];rfl
   have j3:=HD.o;rw[l5,DF.DI]at j3;generalize args.getD i aT=x at *;obtain⟨⟨D3,x3⟩,k6⟩:∃q,DF.ex (p0,pc) x D2=q:=⟨_,z⟩;rw[k6]at j3;have h4:=O j3;simp only[k6]at l3;have i4:=O l3;have e2:Hid (ExL (fun _=>True) A xs x):=O k1;have f9:Hid (A.rangeAt b2 (f7+i*7) xs):=O l6;have l9:=k1.cells.1;have S:Hid (w.1.size+5<=A.1.size):=O (by have:=a4.y.lt;omega);clear HQ HG HD j3 l3 k1 l6 l5 k6 c6;apply al [14] (fun W=>FM A.1.size A W) m1;rw[hV];have HS:Hid (FM A.1.size A A):=O (FB _ A);clear hV;have g9:Hid (∀g,(Value.slice ga acc.length d5).ownBlock=some g->g<A.1.size):=O fun g hg=>by obtain⟨cells,-,h5,-⟩:=d8.own;exact(h5.lt g hg).2
   refine tl 0 58 HS 109 3 w.1.size 0 f1 du (fun W hS=> (a4.f.below hS).whole) g3 g1 (by rw[hl];exact aj) ?_;refine fa 1 ?_;refine fK (fun W1=>W1.cell? ⟨w.1.size+1,6,none⟩=some (.slice (some ⟨b2,f7,none⟩) a5 cap)) 2 (fun W1 j7=>by rw[(a4.o.e.below j7).cell];rfl) ?_;refine fa 3 ?_;refine nm ?_;refine fa 4 ?_;refine tl 5 63 HS 58 62 b2 (f7+i*7) xs m0 (fun W hS=>fun j u hu=>ai hS _ _ _ (f9 j u hu)) g4 g2 (by rw[l9];exact be) ?_;refine fK (fun W1=>W1.cell? ⟨w.1.size+1+1,0,none⟩=some (.int .i64 p0)/\W1.cell? ⟨w.1.size+1+1,1,none⟩=some (.int .i64 pc)) 6 (fun W1 j7=>⟨by rw[(a4.o.p.below j7).cell];rfl,by rw[(a4.o.p.below j7).cell];rfl⟩) ?_;refine nm ?_
   refine cj [7,11,12] (by kernel_rfl) ?_ (by decide);intro i hi;simp only[FQ,FO,or_false]at hi;rcases hi with rfl|rfl|rfl
   .refine⟨_,z,z,fun J C=>?_⟩;go_simp;apply (i4 A (fun c F=>by have:=a3 c F;have:=HS.size;have:=S.o;omega) (a4.d.below HS) (e2.sub HS)).mono;rintro e Y1 ⟨⟨K,H,rfl,hd,he⟩,E⟩;have H1:Hid (FM A.1.size A Y1):=O (HS.trans (E.mono HS.size));have j5:Hid (aG ok Y1 D3 K):=O hd;have j8:Hid (ExL (fun c=>A.1.size<=c/\c<Y1.1.size) Y1 H x3):=O he.bound;have z1:A.1.size<=Y1.1.size:=E.size;have f8:A.1.size<=A.1.size:=HS.size;apply C _ _ (fun _=>H1);clear C J hd he E;refine ke 8 ?_;refine nm ?_;refine cj [11,12] (by kernel_rfl) ?_ (by decide);intro i hi;simp only[FQ,FO,or_false]at hi;rcases hi with rfl|rfl
    .refine⟨_,z,z,fun J C=>?_⟩;obtain⟨M,d7⟩:=eX Y1.1.size;refine aw j0 i5 i6 z M d7 ?_;intro Y2 hk E z2;have U:Hid (FM A.1.size A Y2):=O (H1.trans (E.mono H1.size));have e1:=O (j5.below E);clear j5;have f0:=O (j8.o.keep fun c o u _ hu=>ai E c o u hu);clear j8;have e6:=O hk;have f3:A.1.size<=M:=by rw[<-d7];exact H1.o.size
     refine C _ _ (fun _=>U.o) ?_;clear C J hk E;refine nm ?_;refine oD 12 fun J C=>?_;obtain⟨N,d6⟩:∃b,Y2.1.size=b:=⟨_,z⟩;refine aw i2 i7 j2 z N d6 ?_;intro Y3 hk E z3;have H3:Hid (FM A.1.size A Y3):=O (U.o.trans (E.mono U.o.size));have a6:=O (e1.o.below E);clear e1;have a9:=O (f0.o.keep fun c o u _ hu=>ai E c o u hu);clear f0;have b9:=O (e6.o.below E);clear e6;have d4:=O hk;have v3:A.1.size<=N:=by rw[<-d6];exact U.o.size
     refine C _ _ (fun _=>H3.o) ?_;clear C J hk E;refine nm ?_;refine oD 13 fun J C=>?_;refine an aj (.tmp 14) (.tmp 66) z (M) K _ z z b9.o z a6.o.cells ?_;intro W7 k7 c7;have Z:Hid (ak W7 (M) 109 K/\Ch (M) Y3 W7):=O (EQ k7 c7);have H7:Hid (FM A.1.size A W7):=O (c7.below (by omega) H3.o);clear k7 c7;refine C _ _ (fun _=>H7.o) ?_;clear C J;refine oD 14 fun J C=>?_;refine an be (.tmp 15) (.tmp 67) z (N) H _ z z (Z.o.2.CV (by omega) d4.o) z a9.o.cells ?_;intro G k8 c8;have V:Hid (ak G (N) 58 H/\Ch (N) W7 G):=O (EQ k8 c8);have H8:Hid (FM A.1.size A G):=O (c8.below (by omega) H7.o);clear k8 c8;refine C _ _ (fun h=>by cases h) ?_;clear C J;simp only[Gf];refine dn ?_
     have a2:aG ok G D3 K:=V.o.2.df (fun e=>by have:=a3 _ e;have:=S.o;omega) (Z.o.2.df (fun e=>by have:=a3 _ e;have:=S.o;omega) a6.o);have a0:ExL (fun c=>A.1.size<=c/\c<G.1.size) G H x3:=(ExL.CQ (fun c F=>by have:=F.1;omega) (V.o.2.ex (fun c F=>by have:=F.1;have:=F.2;omega) (Z.o.2.ex (fun c F=>by have:=F.1;have:=F.2;omega) a9.o)):ExL (fun c=>A.1.size<=c) G H x3).bound;have m5:ak G (M) 109 K:=V.o.2.CV (by omega) Z.o.1;have a1:ak G (N) 58 H:=V.o.1;have X:w.1.size+5<=M:=by have:=S.o;omega
     have Y:w.1.size+5<=N:=by have:=S.o;omega
     have HF:=O (EQ a2 (EQ a0 (EQ m5 (EQ a1 (EQ X Y)))));clear a2 a0 m5 a1 X Y Z V H7 a6 a9 b9 d4 H3 z1 f8 z2 f3 z3 v3;obtain⟨a2,a0,m5,a1,X,Y⟩:=HF.o;have a7:Hid (Xq w ok D2 f1 (gv k n s sl lo p1 (.slice (some ⟨b2,f7,none⟩) a5 cap)) p0 pc G):=O (a4.o.below H8.o);have d2:=O (d8.o.below H8.o);have d0:=O m5;have b7:=O a1;have b6:=O a0;have a8:=O a2;have e9:=O H8.o.size;have e3:=O (EQ X Y);clear HF a4 d8 e2 f9 m5 a1 a0 a2 H8 X Y;have d3:=O a8.o.cells;have b4:acc.length<=10000000:=by have:=d9.o;have:=g8.o trivial;omega
     have e5:=O fun _:True=>b4;clear b4;go_wp2_with (first
      | ((with_reducible refine cp 68 (.load 109 _) ?_);refine ac g3 g1 aj z (.tmp 14) z M K z d0 d3.o.1 ?_)
      | ((with_reducible refine cY (.store 109 _ _) ?_);refine af aj z (.tmp 3) (.tmp 68) z w.1.size K _ z z a7.o.f hl d3.o ?_;intro W9 k9 c9;have Q:=O (EQ k9 c9);clear k9 c9;have e8:=O (a7.o.Dc a3 a8.o Q.o.1 Q.o.2);have f5:=O (Q.o.2.grow d2.o (by omega));have d1:=O (Q.o.2.ex (fun c F=>by have:=F.1;have:=S.o;omega) b6.o);have f6:=O (Q.o.2.CV (by have:=e3.o;omega) b7.o);have e7:A.1.size<=W9.1.size:=(by rw[Q.o.2.size];exact e9.o);have HL:=O (hc (v:= .slice ga acc.length d5) d1.o g9.o S.o);have b5:w.1.size+5<=W9.1.size:=(by have:=S.o;omega);have f4:=O b5;have b8:=d1.o.cells.1;have h9:=bE #[I 0,I 0,.string ⟨#[]⟩,I 0,.bool false,I 0,.slice none 0 0] H (by rw[b8];rfl);clear Q a7 d2 b6 a8 d0 e7 b7 b5)
      | ((with_reducible refine cp 70 (.load 58 _) ?_);refine ac g4 g2 be z (.tmp 15) z N H z f6 b8 ?_)
      | (at_builtin;refine bg gC z (.tmp 69) (.tmp 71) 56 z i0 z0 _ g6 g5 h3 h6 z g7 (by decide) h7 (w.1.size+5) W9 _ (.slice ga acc.length d5) acc z f5 H x3 HL z z (e5.o trivial) f4.o ?_;intro gb i1 j1 e0 f2 i3)
      |fail)
     go_roundg (a5- (i+1));case measure=>omega
     case rel=>
      refine⟨i+1,acc++[x3],D3,K,by omega,z,?_,by have:=d9.o;simp;omega,e0,O (e8.o.DZ a3 f2.o),O ?_⟩
      .have hp:=h0.o trivial;exact congrArg (Gr .i64) ((Gi _ (by omega)).trans (by omega))
      .rw[<-h4.o];simp
    .refine⟨_,z,z,fun J C=>?_⟩;obtain⟨N,d6⟩:∃b,Y1.1.size=b:=⟨_,z⟩;refine aw i2 i7 j2 z N d6 ?_;intro Y2 hk E z2;have U:Hid (FM A.1.size A Y2):=O (H1.o.trans (E.mono H1.o.size));have e1:=O (j5.o.below E);clear j5;have f0:=O (j8.o.keep fun c o u _ hu=>ai E c o u hu);clear j8;have e4:=O hk;have f3:A.1.size<=N:=by rw[<-d6];exact H1.o.size
     refine C _ _ (fun _=>U.o) ?_;clear C J hk E;refine nm ?_;refine oD 11 fun J C=>?_;obtain⟨M,d7⟩:∃b,Y2.1.size=b:=⟨_,z⟩;refine aw j0 i5 i6 z M d7 ?_;intro Y3 hk E z3;have H3:Hid (FM A.1.size A Y3):=O (U.o.trans (E.mono U.o.size));have a6:=O (e1.o.below E);clear e1;have a9:=O (f0.o.keep fun c o u _ hu=>ai E c o u hu);clear f0;have d4:=O (e4.o.below E);clear e4;have b9:=O hk;have v3:A.1.size<=M:=by rw[<-d7];exact U.o.size
     refine C _ _ (fun _=>H3.o) ?_;clear C J hk E;refine nm ?_;refine oD 13 fun J C=>?_;refine an aj (.tmp 14) (.tmp 66) z (M) K _ z z b9.o z a6.o.cells ?_;intro W7 k7 c7;have Z:Hid (ak W7 (M) 109 K/\Ch (M) Y3 W7):=O (EQ k7 c7);have H7:Hid (FM A.1.size A W7):=O (c7.below (by omega) H3.o);clear k7 c7;refine C _ _ (fun _=>H7.o) ?_;clear C J;refine oD 14 fun J C=>?_;refine an be (.tmp 15) (.tmp 67) z (N) H _ z z (Z.o.2.CV (by omega) d4.o) z a9.o.cells ?_;intro G k8 c8;have V:Hid (ak G (N) 58 H/\Ch (N) W7 G):=O (EQ k8 c8);have H8:Hid (FM A.1.size A G):=O (c8.below (by omega) H7.o);clear k8 c8;refine C _ _ (fun h=>by cases h) ?_;clear C J;simp only[Gf];refine dn ?_
     have a2:aG ok G D3 K:=V.o.2.df (fun e=>by have:=a3 _ e;have:=S.o;omega) (Z.o.2.df (fun e=>by have:=a3 _ e;have:=S.o;omega) a6.o);have a0:ExL (fun c=>A.1.size<=c/\c<G.1.size) G H x3:=(ExL.CQ (fun c F=>by have:=F.1;omega) (V.o.2.ex (fun c F=>by have:=F.1;have:=F.2;omega) (Z.o.2.ex (fun c F=>by have:=F.1;have:=F.2;omega) a9.o)):ExL (fun c=>A.1.size<=c) G H x3).bound;have m5:ak G (M) 109 K:=V.o.2.CV (by omega) Z.o.1;have a1:ak G (N) 58 H:=V.o.1;have X:w.1.size+5<=M:=by have:=S.o;omega
     have Y:w.1.size+5<=N:=by have:=S.o;omega
     have HF:=O (EQ a2 (EQ a0 (EQ m5 (EQ a1 (EQ X Y)))));clear a2 a0 m5 a1 X Y Z V H7 a6 a9 b9 d4 H3 z1 f8 z2 f3 z3 v3;obtain⟨a2,a0,m5,a1,X,Y⟩:=HF.o;have a7:Hid (Xq w ok D2 f1 (gv k n s sl lo p1 (.slice (some ⟨b2,f7,none⟩) a5 cap)) p0 pc G):=O (a4.o.below H8.o);have d2:=O (d8.o.below H8.o);have d0:=O m5;have b7:=O a1;have b6:=O a0;have a8:=O a2;have e9:=O H8.o.size;have e3:=O (EQ X Y);clear HF a4 d8 e2 f9 m5 a1 a0 a2 H8 X Y;have d3:=O a8.o.cells;have b4:acc.length<=10000000:=by have:=d9.o;have:=g8.o trivial;omega
     have e5:=O fun _:True=>b4;clear b4;go_wp2_with (first
      | ((with_reducible refine cp 68 (.load 109 _) ?_);refine ac g3 g1 aj z (.tmp 14) z M K z d0 d3.o.1 ?_)
      | ((with_reducible refine cY (.store 109 _ _) ?_);refine af aj z (.tmp 3) (.tmp 68) z w.1.size K _ z z a7.o.f hl d3.o ?_;intro W9 k9 c9;have Q:=O (EQ k9 c9);clear k9 c9;have e8:=O (a7.o.Dc a3 a8.o Q.o.1 Q.o.2);have f5:=O (Q.o.2.grow d2.o (by omega));have d1:=O (Q.o.2.ex (fun c F=>by have:=F.1;have:=S.o;omega) b6.o);have f6:=O (Q.o.2.CV (by have:=e3.o;omega) b7.o);have e7:A.1.size<=W9.1.size:=(by rw[Q.o.2.size];exact e9.o);have HL:=O (hc (v:= .slice ga acc.length d5) d1.o g9.o S.o);have b5:w.1.size+5<=W9.1.size:=(by have:=S.o;omega);have f4:=O b5;have b8:=d1.o.cells.1;have h9:=bE #[I 0,I 0,.string ⟨#[]⟩,I 0,.bool false,I 0,.slice none 0 0] H (by rw[b8];rfl);clear Q a7 d2 b6 a8 d0 e7 b7 b5)
      | ((with_reducible refine cp 70 (.load 58 _) ?_);refine ac g4 g2 be z (.tmp 15) z N H z f6 b8 ?_)
      | (at_builtin;refine bg gC z (.tmp 69) (.tmp 71) 56 z i0 z0 _ g6 g5 h3 h6 z g7 (by decide) h7 (w.1.size+5) W9 _ (.slice ga acc.length d5) acc z f5 H x3 HL z z (e5.o trivial) f4.o ?_;intro gb i1 j1 e0 f2 i3)
      |fail)
     go_roundg (a5- (i+1));case measure=>omega
     case rel=>
      refine⟨i+1,acc++[x3],D3,K,by omega,z,?_,by have:=d9.o;simp;omega,e0,O (e8.o.DZ a3 f2.o),O ?_⟩
      .have hp:=h0.o trivial;exact congrArg (Gr .i64) ((Gi _ (by omega)).trans (by omega))
      .rw[<-h4.o];simp
   .refine⟨_,z,z,fun J C=>?_⟩;obtain⟨M,d7⟩:∃b,A.1.size=b:=⟨_,z⟩;refine aw j0 i5 i6 z M d7 ?_;intro Y1 hk E z1;have H1:Hid (FM A.1.size A Y1):=O (HS.o.trans (E.mono HS.o.size));have j6:=O hk;have f8:A.1.size<=M:=by rw[<-d7];exact HS.o.size
    refine C _ _ (fun _=>H1.o) ?_;clear C J hk E;refine nm ?_;refine cj [7,12] (by kernel_rfl) ?_ (by decide);intro i hi;simp only[FQ,FO,or_false]at hi;rcases hi with rfl|rfl
    .refine⟨_,z,z,fun J C=>?_⟩;go_simp;refine(i4.o Y1 (fun c F=>by have:=a3 c F;have:=H1.o.size;have:=S.o;omega) (a4.o.d.below H1.o) (e2.o.sub H1.o)).mono ?_;rintro e Y2 ⟨⟨K,H,rfl,hd,he⟩,E⟩;have U:Hid (FM A.1.size A Y2):=O (H1.o.trans (E.mono H1.o.size));have e6:=O (j6.o.below E);clear j6;have e1:Hid (aG ok Y2 D3 K):=O hd;have f0:Hid (ExL (fun c=>Y1.1.size<=c/\c<Y2.1.size) Y2 H x3):=O he.bound;have z2:Y1.1.size<=Y2.1.size:=E.size;have f3:A.1.size<=Y1.1.size:=H1.o.size;refine C _ _ (fun _=>U.o) ?_;clear C J hd he E;refine tk 8 (some 57) U ?_;refine tk 9 (some 66) U ?_;refine tk 10 (some 67) U ?_;refine nm ?_;refine oD 12 fun J C=>?_;obtain⟨N,d6⟩:∃b,Y2.1.size=b:=⟨_,z⟩;refine aw i2 i7 j2 z N d6 ?_
     intro Y3 hk E z3;have H3:Hid (FM A.1.size A Y3):=O (U.o.trans (E.mono U.o.size));have a6:=O (e1.o.below E);clear e1;have a9:=O (f0.o.keep fun c o u _ hu=>ai E c o u hu);clear f0;have b9:=O (e6.o.below E);clear e6;have d4:=O hk;have v3:A.1.size<=N:=by rw[<-d6];exact U.o.size
     refine C _ _ (fun _=>H3.o) ?_;clear C J hk E;refine nm ?_;refine oD 13 fun J C=>?_;refine an aj (.tmp 14) (.tmp 66) z (M) K _ z z b9.o z a6.o.cells ?_;intro W7 k7 c7;have Z:Hid (ak W7 (M) 109 K/\Ch (M) Y3 W7):=O (EQ k7 c7);have H7:Hid (FM A.1.size A W7):=O (c7.below (by omega) H3.o);clear k7 c7;refine C _ _ (fun _=>H7.o) ?_;clear C J;refine oD 14 fun J C=>?_;refine an be (.tmp 15) (.tmp 67) z (N) H _ z z (Z.o.2.CV (by omega) d4.o) z a9.o.cells ?_;intro G k8 c8;have V:Hid (ak G (N) 58 H/\Ch (N) W7 G):=O (EQ k8 c8);have H8:Hid (FM A.1.size A G):=O (c8.below (by omega) H7.o);clear k8 c8;refine C _ _ (fun h=>by cases h) ?_;clear C J;simp only[Gf];refine dn ?_
     have a2:aG ok G D3 K:=V.o.2.df (fun e=>by have:=a3 _ e;have:=S.o;omega) (Z.o.2.df (fun e=>by have:=a3 _ e;have:=S.o;omega) a6.o);have a0:ExL (fun c=>A.1.size<=c/\c<G.1.size) G H x3:=(ExL.CQ (fun c F=>by have:=F.1;omega) (V.o.2.ex (fun c F=>by have:=F.1;have:=F.2;omega) (Z.o.2.ex (fun c F=>by have:=F.1;have:=F.2;omega) a9.o)):ExL (fun c=>A.1.size<=c) G H x3).bound;have m5:ak G (M) 109 K:=V.o.2.CV (by omega) Z.o.1;have a1:ak G (N) 58 H:=V.o.1;have X:w.1.size+5<=M:=by have:=S.o;omega
     have Y:w.1.size+5<=N:=by have:=S.o;omega
     have HF:=O (EQ a2 (EQ a0 (EQ m5 (EQ a1 (EQ X Y)))));clear a2 a0 m5 a1 X Y Z V H7 a6 a9 b9 d4 H3 z1 f8 z2 f3 z3 v3;obtain⟨a2,a0,m5,a1,X,Y⟩:=HF.o;have a7:Hid (Xq w ok D2 f1 (gv k n s sl lo p1 (.slice (some ⟨b2,f7,none⟩) a5 cap)) p0 pc G):=O (a4.o.below H8.o);have d2:=O (d8.o.below H8.o);have d0:=O m5;have b7:=O a1;have b6:=O a0;have a8:=O a2;have e9:=O H8.o.size;have e3:=O (EQ X Y);clear HF a4 d8 e2 f9 m5 a1 a0 a2 H8 X Y;have d3:=O a8.o.cells;have b4:acc.length<=10000000:=by have:=d9.o;have:=g8.o trivial;omega
     have e5:=O fun _:True=>b4;clear b4;go_wp2_with (first
      | ((with_reducible refine cp 68 (.load 109 _) ?_);refine ac g3 g1 aj z (.tmp 14) z M K z d0 d3.o.1 ?_)
      | ((with_reducible refine cY (.store 109 _ _) ?_);refine af aj z (.tmp 3) (.tmp 68) z w.1.size K _ z z a7.o.f hl d3.o ?_;intro W9 k9 c9;have Q:=O (EQ k9 c9);clear k9 c9;have e8:=O (a7.o.Dc a3 a8.o Q.o.1 Q.o.2);have f5:=O (Q.o.2.grow d2.o (by omega));have d1:=O (Q.o.2.ex (fun c F=>by have:=F.1;have:=S.o;omega) b6.o);have f6:=O (Q.o.2.CV (by have:=e3.o;omega) b7.o);have e7:A.1.size<=W9.1.size:=(by rw[Q.o.2.size];exact e9.o);have HL:=O (hc (v:= .slice ga acc.length d5) d1.o g9.o S.o);have b5:w.1.size+5<=W9.1.size:=(by have:=S.o;omega);have f4:=O b5;have b8:=d1.o.cells.1;have h9:=bE #[I 0,I 0,.string ⟨#[]⟩,I 0,.bool false,I 0,.slice none 0 0] H (by rw[b8];rfl);clear Q a7 d2 b6 a8 d0 e7 b7 b5)
      | ((with_reducible refine cp 70 (.load 58 _) ?_);refine ac g4 g2 be z (.tmp 15) z N H z f6 b8 ?_)
      | (at_builtin;refine bg gC z (.tmp 69) (.tmp 71) 56 z i0 z0 _ g6 g5 h3 h6 z g7 (by decide) h7 (w.1.size+5) W9 _ (.slice ga acc.length d5) acc z f5 H x3 HL z z (e5.o trivial) f4.o ?_;intro gb i1 j1 e0 f2 i3)
      |fail)
     go_roundg (a5- (i+1));case measure=>omega
     case rel=>
      refine⟨i+1,acc++[x3],D3,K,by omega,z,?_,by have:=d9.o;simp;omega,e0,O (e8.o.DZ a3 f2.o),O ?_⟩
      .have hp:=h0.o trivial;exact congrArg (Gr .i64) ((Gi _ (by omega)).trans (by omega))
      .rw[<-h4.o];simp
    .refine⟨_,z,z,fun J C=>?_⟩;obtain⟨N,d6⟩:∃b,Y1.1.size=b:=⟨_,z⟩;refine aw i2 i7 j2 z N d6 ?_;intro Y2 hk E z2;have U:Hid (FM A.1.size A Y2):=O (H1.o.trans (E.mono H1.o.size));have e6:=O (j6.o.below E);clear j6;have e4:=O hk;have f3:A.1.size<=N:=by rw[<-d6];exact H1.o.size
     refine C _ _ (fun _=>U.o) ?_;clear C J hk E;refine nm ?_;refine oD 7 fun J C=>?_;go_simp;refine(i4.o Y2 (fun c F=>by have:=a3 c F;have:=U.o.size;have:=S.o;omega) (a4.o.d.below U.o) (e2.o.sub U.o)).mono ?_;rintro e Y3 ⟨⟨K,H,rfl,hd,he⟩,E⟩;have H3:Hid (FM A.1.size A Y3):=O (U.o.trans (E.mono U.o.size));have b9:=O (e6.o.below E);clear e6;have d4:=O (e4.o.below E);clear e4;have a6:Hid (aG ok Y3 D3 K):=O hd;have a9:Hid (ExL (fun c=>Y2.1.size<=c/\c<Y3.1.size) Y3 H x3):=O he.bound;have z3:Y2.1.size<=Y3.1.size:=E.size;have v3:A.1.size<=Y2.1.size:=U.o.size;refine C _ _ (fun _=>H3.o) ?_;clear C J hd he E;refine tk 8 (some 57) H3 ?_;refine tk 9 (some 66) H3 ?_;refine tk 10 (some 67) H3 ?_;refine nm ?_
     refine oD 13 fun J C=>?_;refine an aj (.tmp 14) (.tmp 66) z (M) K _ z z b9.o z a6.o.cells ?_;intro W7 k7 c7;have Z:Hid (ak W7 (M) 109 K/\Ch (M) Y3 W7):=O (EQ k7 c7);have H7:Hid (FM A.1.size A W7):=O (c7.below (by omega) H3.o);clear k7 c7;refine C _ _ (fun _=>H7.o) ?_;clear C J;refine oD 14 fun J C=>?_;refine an be (.tmp 15) (.tmp 67) z (N) H _ z z (Z.o.2.CV (by omega) d4.o) z a9.o.cells ?_;intro G k8 c8;have V:Hid (ak G (N) 58 H/\Ch (N) W7 G):=O (EQ k8 c8);have H8:Hid (FM A.1.size A G):=O (c8.below (by omega) H7.o);clear k8 c8;refine C _ _ (fun h=>by cases h) ?_;clear C J;simp only[Gf];refine dn ?_
     have a2:aG ok G D3 K:=V.o.2.df (fun e=>by have:=a3 _ e;have:=S.o;omega) (Z.o.2.df (fun e=>by have:=a3 _ e;have:=S.o;omega) a6.o);have a0:ExL (fun c=>A.1.size<=c/\c<G.1.size) G H x3:=(ExL.CQ (fun c F=>by have:=F.1;omega) (V.o.2.ex (fun c F=>by have:=F.1;have:=F.2;omega) (Z.o.2.ex (fun c F=>by have:=F.1;have:=F.2;omega) a9.o)):ExL (fun c=>A.1.size<=c) G H x3).bound;have m5:ak G (M) 109 K:=V.o.2.CV (by omega) Z.o.1;have a1:ak G (N) 58 H:=V.o.1;have X:w.1.size+5<=M:=by have:=S.o;omega
     have Y:w.1.size+5<=N:=by have:=S.o;omega
     have HF:=O (EQ a2 (EQ a0 (EQ m5 (EQ a1 (EQ X Y)))));clear a2 a0 m5 a1 X Y Z V H7 a6 a9 b9 d4 H3 z1 f8 z2 f3 z3 v3;obtain⟨a2,a0,m5,a1,X,Y⟩:=HF.o;have a7:Hid (Xq w ok D2 f1 (gv k n s sl lo p1 (.slice (some ⟨b2,f7,none⟩) a5 cap)) p0 pc G):=O (a4.o.below H8.o);have d2:=O (d8.o.below H8.o);have d0:=O m5;have b7:=O a1;have b6:=O a0;have a8:=O a2;have e9:=O H8.o.size;have e3:=O (EQ X Y);clear HF a4 d8 e2 f9 m5 a1 a0 a2 H8 X Y;have d3:=O a8.o.cells;have b4:acc.length<=10000000:=by have:=d9.o;have:=g8.o trivial;omega
     have e5:=O fun _:True=>b4;clear b4;go_wp2_with (first
      | ((with_reducible refine cp 68 (.load 109 _) ?_);refine ac g3 g1 aj z (.tmp 14) z M K z d0 d3.o.1 ?_)
      | ((with_reducible refine cY (.store 109 _ _) ?_);refine af aj z (.tmp 3) (.tmp 68) z w.1.size K _ z z a7.o.f hl d3.o ?_;intro W9 k9 c9;have Q:=O (EQ k9 c9);clear k9 c9;have e8:=O (a7.o.Dc a3 a8.o Q.o.1 Q.o.2);have f5:=O (Q.o.2.grow d2.o (by omega));have d1:=O (Q.o.2.ex (fun c F=>by have:=F.1;have:=S.o;omega) b6.o);have f6:=O (Q.o.2.CV (by have:=e3.o;omega) b7.o);have e7:A.1.size<=W9.1.size:=(by rw[Q.o.2.size];exact e9.o);have HL:=O (hc (v:= .slice ga acc.length d5) d1.o g9.o S.o);have b5:w.1.size+5<=W9.1.size:=(by have:=S.o;omega);have f4:=O b5;have b8:=d1.o.cells.1;have h9:=bE #[I 0,I 0,.string ⟨#[]⟩,I 0,.bool false,I 0,.slice none 0 0] H (by rw[b8];rfl);clear Q a7 d2 b6 a8 d0 e7 b7 b5)
      | ((with_reducible refine cp 70 (.load 58 _) ?_);refine ac g4 g2 be z (.tmp 15) z N H z f6 b8 ?_)
      | (at_builtin;refine bg gC z (.tmp 69) (.tmp 71) 56 z i0 z0 _ g6 g5 h3 h6 z g7 (by decide) h7 (w.1.size+5) W9 _ (.slice ga acc.length d5) acc z f5 H x3 HL z z (e5.o trivial) f4.o ?_;intro gb i1 j1 e0 f2 i3)
      |fail)
     go_roundg (a5- (i+1));case measure=>omega
     case rel=>
      refine⟨i+1,acc++[x3],D3,K,by omega,z,?_,by have:=d9.o;simp;omega,e0,O (e8.o.DZ a3 f2.o),O ?_⟩
      .have hp:=h0.o trivial;exact congrArg (Gr .i64) ((Gi _ (by omega)).trans (by omega))
      .rw[<-h4.o];simp
   .refine⟨_,z,z,fun J C=>?_⟩;obtain⟨N,d6⟩:∃b,A.1.size=b:=⟨_,z⟩;refine aw i2 i7 j2 z N d6 ?_;intro Y1 hk E z1;have H1:Hid (FM A.1.size A Y1):=O (HS.o.trans (E.mono HS.o.size));have k0:=O hk;have f8:A.1.size<=N:=by rw[<-d6];exact HS.o.size
    refine C _ _ (fun _=>H1.o) ?_;clear C J hk E;refine nm ?_;refine cj [7,11] (by kernel_rfl) ?_ (by decide);intro i hi;simp only[FQ,FO,or_false]at hi;rcases hi with rfl|rfl
    .refine⟨_,z,z,fun J C=>?_⟩;go_simp;refine(i4.o Y1 (fun c F=>by have:=a3 c F;have:=H1.o.size;have:=S.o;omega) (a4.o.d.below H1.o) (e2.o.sub H1.o)).mono ?_;rintro e Y2 ⟨⟨K,H,rfl,hd,he⟩,E⟩;have U:Hid (FM A.1.size A Y2):=O (H1.o.trans (E.mono H1.o.size));have e4:=O (k0.o.below E);clear k0;have e1:Hid (aG ok Y2 D3 K):=O hd;have f0:Hid (ExL (fun c=>Y1.1.size<=c/\c<Y2.1.size) Y2 H x3):=O he.bound;have z2:Y1.1.size<=Y2.1.size:=E.size;have f3:A.1.size<=Y1.1.size:=H1.o.size;refine C _ _ (fun _=>U.o) ?_;clear C J hd he E;refine tk 8 (some 57) U ?_;refine tk 9 (some 66) U ?_;refine tk 10 (some 67) U ?_;refine nm ?_;refine oD 11 fun J C=>?_;obtain⟨M,d7⟩:∃b,Y2.1.size=b:=⟨_,z⟩;refine aw j0 i5 i6 z M d7 ?_
     intro Y3 hk E z3;have H3:Hid (FM A.1.size A Y3):=O (U.o.trans (E.mono U.o.size));have a6:=O (e1.o.below E);clear e1;have a9:=O (f0.o.keep fun c o u _ hu=>ai E c o u hu);clear f0;have d4:=O (e4.o.below E);clear e4;have b9:=O hk;have v3:A.1.size<=M:=by rw[<-d7];exact U.o.size
     refine C _ _ (fun _=>H3.o) ?_;clear C J hk E;refine nm ?_;refine oD 13 fun J C=>?_;refine an aj (.tmp 14) (.tmp 66) z (M) K _ z z b9.o z a6.o.cells ?_;intro W7 k7 c7;have Z:Hid (ak W7 (M) 109 K/\Ch (M) Y3 W7):=O (EQ k7 c7);have H7:Hid (FM A.1.size A W7):=O (c7.below (by omega) H3.o);clear k7 c7;refine C _ _ (fun _=>H7.o) ?_;clear C J;refine oD 14 fun J C=>?_;refine an be (.tmp 15) (.tmp 67) z (N) H _ z z (Z.o.2.CV (by omega) d4.o) z a9.o.cells ?_;intro G k8 c8;have V:Hid (ak G (N) 58 H/\Ch (N) W7 G):=O (EQ k8 c8);have H8:Hid (FM A.1.size A G):=O (c8.below (by omega) H7.o);clear k8 c8;refine C _ _ (fun h=>by cases h) ?_;clear C J;simp only[Gf];refine dn ?_
     have a2:aG ok G D3 K:=V.o.2.df (fun e=>by have:=a3 _ e;have:=S.o;omega) (Z.o.2.df (fun e=>by have:=a3 _ e;have:=S.o;omega) a6.o);have a0:ExL (fun c=>A.1.size<=c/\c<G.1.size) G H x3:=(ExL.CQ (fun c F=>by have:=F.1;omega) (V.o.2.ex (fun c F=>by have:=F.1;have:=F.2;omega) (Z.o.2.ex (fun c F=>by have:=F.1;have:=F.2;omega) a9.o)):ExL (fun c=>A.1.size<=c) G H x3).bound;have m5:ak G (M) 109 K:=V.o.2.CV (by omega) Z.o.1;have a1:ak G (N) 58 H:=V.o.1;have X:w.1.size+5<=M:=by have:=S.o;omega
     have Y:w.1.size+5<=N:=by have:=S.o;omega
     have HF:=O (EQ a2 (EQ a0 (EQ m5 (EQ a1 (EQ X Y)))));clear a2 a0 m5 a1 X Y Z V H7 a6 a9 b9 d4 H3 z1 f8 z2 f3 z3 v3;obtain⟨a2,a0,m5,a1,X,Y⟩:=HF.o;have a7:Hid (Xq w ok D2 f1 (gv k n s sl lo p1 (.slice (some ⟨b2,f7,none⟩) a5 cap)) p0 pc G):=O (a4.o.below H8.o);have d2:=O (d8.o.below H8.o);have d0:=O m5;have b7:=O a1;have b6:=O a0;have a8:=O a2;have e9:=O H8.o.size;have e3:=O (EQ X Y);clear HF a4 d8 e2 f9 m5 a1 a0 a2 H8 X Y;have d3:=O a8.o.cells;have b4:acc.length<=10000000:=by have:=d9.o;have:=g8.o trivial;omega
     have e5:=O fun _:True=>b4;clear b4;go_wp2_with (first
      | ((with_reducible refine cp 68 (.load 109 _) ?_);refine ac g3 g1 aj z (.tmp 14) z M K z d0 d3.o.1 ?_)
      | ((with_reducible refine cY (.store 109 _ _) ?_);refine af aj z (.tmp 3) (.tmp 68) z w.1.size K _ z z a7.o.f hl d3.o ?_;intro W9 k9 c9;have Q:=O (EQ k9 c9);clear k9 c9;have e8:=O (a7.o.Dc a3 a8.o Q.o.1 Q.o.2);have f5:=O (Q.o.2.grow d2.o (by omega));have d1:=O (Q.o.2.ex (fun c F=>by have:=F.1;have:=S.o;omega) b6.o);have f6:=O (Q.o.2.CV (by have:=e3.o;omega) b7.o);have e7:A.1.size<=W9.1.size:=(by rw[Q.o.2.size];exact e9.o);have HL:=O (hc (v:= .slice ga acc.length d5) d1.o g9.o S.o);have b5:w.1.size+5<=W9.1.size:=(by have:=S.o;omega);have f4:=O b5;have b8:=d1.o.cells.1;have h9:=bE #[I 0,I 0,.string ⟨#[]⟩,I 0,.bool false,I 0,.slice none 0 0] H (by rw[b8];rfl);clear Q a7 d2 b6 a8 d0 e7 b7 b5)
      | ((with_reducible refine cp 70 (.load 58 _) ?_);refine ac g4 g2 be z (.tmp 15) z N H z f6 b8 ?_)
      | (at_builtin;refine bg gC z (.tmp 69) (.tmp 71) 56 z i0 z0 _ g6 g5 h3 h6 z g7 (by decide) h7 (w.1.size+5) W9 _ (.slice ga acc.length d5) acc z f5 H x3 HL z z (e5.o trivial) f4.o ?_;intro gb i1 j1 e0 f2 i3)
      |fail)
     go_roundg (a5- (i+1));case measure=>omega
     case rel=>
      refine⟨i+1,acc++[x3],D3,K,by omega,z,?_,by have:=d9.o;simp;omega,e0,O (e8.o.DZ a3 f2.o),O ?_⟩
      .have hp:=h0.o trivial;exact congrArg (Gr .i64) ((Gi _ (by omega)).trans (by omega))
      .rw[<-h4.o];simp
    .refine⟨_,z,z,fun J C=>?_⟩;obtain⟨M,d7⟩:∃b,Y1.1.size=b:=⟨_,z⟩;refine aw j0 i5 i6 z M d7 ?_;intro Y2 hk E z2;have U:Hid (FM A.1.size A Y2):=O (H1.o.trans (E.mono H1.o.size));have e4:=O (k0.o.below E);clear k0;have e6:=O hk;have f3:A.1.size<=M:=by rw[<-d7];exact H1.o.size
     refine C _ _ (fun _=>U.o) ?_;clear C J hk E;refine nm ?_;refine oD 7 fun J C=>?_;go_simp;refine(i4.o Y2 (fun c F=>by have:=a3 c F;have:=U.o.size;have:=S.o;omega) (a4.o.d.below U.o) (e2.o.sub U.o)).mono ?_;rintro e Y3 ⟨⟨K,H,rfl,hd,he⟩,E⟩;have H3:Hid (FM A.1.size A Y3):=O (U.o.trans (E.mono U.o.size));have b9:=O (e6.o.below E);clear e6;have d4:=O (e4.o.below E);clear e4;have a6:Hid (aG ok Y3 D3 K):=O hd;have a9:Hid (ExL (fun c=>Y2.1.size<=c/\c<Y3.1.size) Y3 H x3):=O he.bound;have z3:Y2.1.size<=Y3.1.size:=E.size;have v3:A.1.size<=Y2.1.size:=U.o.size;refine C _ _ (fun _=>H3.o) ?_;clear C J hd he E;refine tk 8 (some 57) H3 ?_;refine tk 9 (some 66) H3 ?_;refine tk 10 (some 67) H3 ?_;refine nm ?_
     refine oD 13 fun J C=>?_;refine an aj (.tmp 14) (.tmp 66) z (M) K _ z z b9.o z a6.o.cells ?_;intro W7 k7 c7;have Z:Hid (ak W7 (M) 109 K/\Ch (M) Y3 W7):=O (EQ k7 c7);have H7:Hid (FM A.1.size A W7):=O (c7.below (by omega) H3.o);clear k7 c7;refine C _ _ (fun _=>H7.o) ?_;clear C J;refine oD 14 fun J C=>?_;refine an be (.tmp 15) (.tmp 67) z (N) H _ z z (Z.o.2.CV (by omega) d4.o) z a9.o.cells ?_;intro G k8 c8;have V:Hid (ak G (N) 58 H/\Ch (N) W7 G):=O (EQ k8 c8);have H8:Hid (FM A.1.size A G):=O (c8.below (by omega) H7.o);clear k8 c8;refine C _ _ (fun h=>by cases h) ?_;clear C J;simp only[Gf];refine dn ?_
     have a2:aG ok G D3 K:=V.o.2.df (fun e=>by have:=a3 _ e;have:=S.o;omega) (Z.o.2.df (fun e=>by have:=a3 _ e;have:=S.o;omega) a6.o);have a0:ExL (fun c=>A.1.size<=c/\c<G.1.size) G H x3:=(ExL.CQ (fun c F=>by have:=F.1;omega) (V.o.2.ex (fun c F=>by have:=F.1;have:=F.2;omega) (Z.o.2.ex (fun c F=>by have:=F.1;have:=F.2;omega) a9.o)):ExL (fun c=>A.1.size<=c) G H x3).bound;have m5:ak G (M) 109 K:=V.o.2.CV (by omega) Z.o.1;have a1:ak G (N) 58 H:=V.o.1;have X:w.1.size+5<=M:=by have:=S.o;omega
     have Y:w.1.size+5<=N:=by have:=S.o;omega
     have HF:=O (EQ a2 (EQ a0 (EQ m5 (EQ a1 (EQ X Y)))));clear a2 a0 m5 a1 X Y Z V H7 a6 a9 b9 d4 H3 z1 f8 z2 f3 z3 v3;obtain⟨a2,a0,m5,a1,X,Y⟩:=HF.o;have a7:Hid (Xq w ok D2 f1 (gv k n s sl lo p1 (.slice (some ⟨b2,f7,none⟩) a5 cap)) p0 pc G):=O (a4.o.below H8.o);have d2:=O (d8.o.below H8.o);have d0:=O m5;have b7:=O a1;have b6:=O a0;have a8:=O a2;have e9:=O H8.o.size;have e3:=O (EQ X Y);clear HF a4 d8 e2 f9 m5 a1 a0 a2 H8 X Y;have d3:=O a8.o.cells;have b4:acc.length<=10000000:=by have:=d9.o;have:=g8.o trivial;omega
     have e5:=O fun _:True=>b4;clear b4;go_wp2_with (first
      | ((with_reducible refine cp 68 (.load 109 _) ?_);refine ac g3 g1 aj z (.tmp 14) z M K z d0 d3.o.1 ?_)
      | ((with_reducible refine cY (.store 109 _ _) ?_);refine af aj z (.tmp 3) (.tmp 68) z w.1.size K _ z z a7.o.f hl d3.o ?_;intro W9 k9 c9;have Q:=O (EQ k9 c9);clear k9 c9;have e8:=O (a7.o.Dc a3 a8.o Q.o.1 Q.o.2);have f5:=O (Q.o.2.grow d2.o (by omega));have d1:=O (Q.o.2.ex (fun c F=>by have:=F.1;have:=S.o;omega) b6.o);have f6:=O (Q.o.2.CV (by have:=e3.o;omega) b7.o);have e7:A.1.size<=W9.1.size:=(by rw[Q.o.2.size];exact e9.o);have HL:=O (hc (v:= .slice ga acc.length d5) d1.o g9.o S.o);have b5:w.1.size+5<=W9.1.size:=(by have:=S.o;omega);have f4:=O b5;have b8:=d1.o.cells.1;have h9:=bE #[I 0,I 0,.string ⟨#[]⟩,I 0,.bool false,I 0,.slice none 0 0] H (by rw[b8];rfl);clear Q a7 d2 b6 a8 d0 e7 b7 b5)
      | ((with_reducible refine cp 70 (.load 58 _) ?_);refine ac g4 g2 be z (.tmp 15) z N H z f6 b8 ?_)
      | (at_builtin;refine bg gC z (.tmp 69) (.tmp 71) 56 z i0 z0 _ g6 g5 h3 h6 z g7 (by decide) h7 (w.1.size+5) W9 _ (.slice ga acc.length d5) acc z f5 H x3 HL z z (e5.o trivial) f4.o ?_;intro gb i1 j1 e0 f2 i3)
      |fail)
     go_roundg (a5- (i+1));case measure=>omega
     case rel=>
      refine⟨i+1,acc++[x3],D3,K,by omega,z,?_,by have:=d9.o;simp;omega,e0,O (e8.DZ a3 f2),O ?_⟩
      .have hp:=h0 trivial;exact congrArg (Gr .i64) ((Gi _ (by omega)).trans (by omega))
      .rw[<-h4.o];simp
  .obtain rfl:i=a5:=by omega
   have l8:¬ (i:Int)< (i:Int):=by omega
   go_wp2;apply j9;refine wZ a3 HQ HG (O ?_);rw[HR.o,<-HD.o,<-HN.o,List.drop_length,DF.DI];simp
theorem AJ{p:Int×Int}{sl:Int}{lo:Bool}{x:Nm}(h:D.CZ s 1 100 p=(D0,x)):D.Ed p 2 s sl lo=(D0,(x.slot:Int),decide (x.kind=100)):=by unfold DF.Ed;rw[aD rfl,h]
theorem Av{p:Int×Int}{sl:Int}{lo:Bool}{x:Nm}(h:D.CZ s 2 2 p=(D0,x)):D.Ed p 3 s sl lo=(D0,(x.slot:Int),lo):=by unfold DF.Ed;rw[am (by decide),aD rfl,h]
theorem Az{p:Int×Int}{k:Int}{sl:Int}{lo:Bool}(g:¬k=2)(j:¬k=3):D.Ed p k s sl lo=(D,sl,lo):=by unfold DF.Ed;rw[am g,am j]
theorem tO(k n:Int)(s:ByteArray)(sl:Int)(lo:Bool)(V:Int)(args:List Ex)(p:Int×Int)(ok:Nat->Prop)(g4:args.length<=10000000)
  (IH:∀x∈args,∀D cs xs W,(∀c,ok c->c<W.1.size)->aG ok W D cs->ExL (fun _=>True) W xs x->Jq prog 118 #[.agg cs.toArray,.agg xs.toArray,.agg #[I p.1,I p.2]] W (xC ok W (DF.ex p x D)))
  (D:DF)(cs ec:List Fr)(w:Fk)(A:∀c,ok c->c<w.1.size)(hD:aG ok w D cs)(hX:ExL (fun _=>True) w ec (.mk k n s sl lo V args)):Jq prog 118 #[.agg cs.toArray,.agg ec.toArray,.agg #[I p.1,I p.2]] w (xC ok w (DF.ex p (.mk k n s sl lo V args) D)):=by
 obtain⟨du,d4,d5⟩:=cd;obtain⟨h9,h7,h8⟩:=hY;obtain⟨h6,i1,i0⟩:=en;obtain⟨i9,z9,e1,d8,d9⟩:=em;obtain⟨i8,z8,g7,g8,g9⟩:=mm;obtain⟨i4,z4,f5,g3,f9⟩:=jI;obtain⟨C,pc⟩:=p;unfold ExL at hX;obtain⟨a,cap,g1,g5,f6⟩:=hX;have g2:dT w a args:=f6;obtain⟨R,hR⟩:∃R,DF.ex (C,pc) (.mk k n s sl lo V args) D=R:=⟨_,z⟩;rw[hR];rw[DF.ex]at hR;have HR:=O hR.symm;obtain⟨E,hE⟩:∃E,gv k n s sl lo V (.slice a args.length cap)=E:=⟨_,z⟩;have h3:ec=E:=by rw[<-hE,g1];rfl
 subst h3;have h0:=O hE;have e2:=O g5;have HX:=O g2;have HD:=O hD;have e6:=O IH;have f0:=O fun _:True=>g4;have hl:=hD.cells.1;clear hR g1 g5 f6 g2 hD hE IH g4;go_enter func118,ntmps118;refine wk fun KK a4=>?_;go_wp2_with (first
  | ((with_reducible refine cp 3 (.box 109 _) ?_);refine aJ z (.tmp 0) z cs z w.1.size z ?_;intro W1 k1 b1 f1;have K1:=O k1;have B1:=O b1;clear k1 b1)
  | ((with_reducible refine cp 4 (.box 58 _) ?_);refine aJ z (.tmp 1) z ec z (w.1.size+1) f1 ?_;intro W2 k2 b2 s2;have K2:=O k2;have B2:=O b2;clear k2 b2)
  | ((with_reducible refine cp 5 (.box 32 _) ?_);refine aJ z (.tmp 2) z [I C,I pc] z (w.1.size+1+1) s2 ?_;intro W3 k3 b3 s3;have K3:=O k3;have B3:=O b3;clear k3 b3)
  | ((with_reducible refine cp 6 (.alloc 109) ?_);refine ag e1 d8 d9 z z (w.1.size+1+1+1) s3 ?_;intro W4 k4 b4 s4;have K4:=O k4;have B4:=O b4;clear k4 b4)
  | ((with_reducible refine cp 7 (.alloc 58) ?_);refine ag g7 g8 g9 z z (w.1.size+1+1+1+1) s4 ?_;intro N k5 b5 s5;have K5:=O k5;have B5:=O b5;clear k5 b5)
  |fail)
 refine a4.o _ _ ?_;clear a4 KK;have e9:=B1.o.trans (B2.o.mono B1.o.size);have e5:=e9.trans (B3.o.mono e9.size);have e7:=e5.trans (B4.o.mono e5.size);have e8:=e7.trans (B5.o.mono e7.size);have j:Hid (Xq w ok D cs ec C pc N):=O ⟨e8,(((K1.o.below B2.o).below B3.o).below B4.o).below B5.o,((K2.o.below B3.o).below B4.o).below B5.o,(K3.o.below B4.o).below B5.o,K4.o.below B5.o,K5.o,HD.o.below e8⟩;clear B1 B2 B3 B4 B5 K1 K2 K3 K4 K5 e9 e5 e7 e8 f1 s2 s3 s4 s5 HD;rw[<-h0.o]at j;have c0:N.cell? ⟨w.1.size+1,0,none⟩=some (I k):=by rw[j.o.e.cell];rfl
 refine wk fun KK a4=>?_;by_cases f7:k=2
 .subst f7;have c2:N.cell? ⟨w.1.size+1,2,none⟩=some (.string s):=by rw[j.o.e.cell];rfl
  have p0:N.cell? ⟨w.1.size+1+1,0,none⟩=some (I C):=by rw[j.o.p.cell];rfl
  have p1:N.cell? ⟨w.1.size+1+1,1,none⟩=some (I pc):=by rw[j.o.p.cell];rfl
  obtain⟨⟨Y,x⟩,i2⟩:∃q,D.CZ s 1 100 (C,pc)=q:=⟨_,z⟩;have a0:=eV D s 1 100 (C,pc) ok cs N (fun c hc=>by have:=A c hc;have:=j.o.y.lt;omega) j.o.d;rw[i2]at a0;have HN:=O (AJ (sl:=sl) (lo:=lo) i2);clear i2;go_wp2_with (first| ((with_reducible refine gU _ (.load 109 _) ?_);refine ac d4 d5 aj z (.tmp 3) z w.1.size cs z (O j.o.f) hl ?_)|fail);refine a0.mono ?_;clear a0;rintro e W6 ⟨⟨U,rfl,hd⟩,g⟩;have a3:=O (j.o.below g);have a2:=O hd.cells;have c8:=O hd;clear g hd j c0 c2 p0 p1;have a8:w.1.size+5<=W6.1.size:=by have:=a3.o.y.lt;omega
  have e0:=O a8;clear a8;go_wp2_with (first
   | ((with_reducible refine cp 8 (.alloc 109) ?_);obtain⟨M,a6⟩:∃b,W6.1.size=b:=⟨_,z⟩;refine ag e1 d8 d9 z z M a6 ?_;intro W7 k7 g s7;have K7:=O k7;have a9:=O (a3.o.below g);have b8:=O (c8.o.below g);have F:=O (show w.1.size+5<=M by have:=e0.o;omega);clear k7 g a3 c8 a6)
   | ((with_reducible refine cp 9 (.alloc 114) ?_);obtain⟨J,d2⟩:∃b,W7.1.size=b:=⟨_,z⟩;refine ag f5 g3 f9 z z J d2 ?_;intro W8 k8 g s8;have Z:=O (EQ (K7.o.below g) k8);have d0:=O (a9.o.below g);have b7:=O (b8.o.below g);have G:=O (show M+1=J by omega);clear k8 g a9 b8 K7 d2)
   | ((with_reducible refine cY (.store 109 (.tmp 8) _) ?_);refine af aj z (.tmp 8) (.tmp 26) z M U _ z z Z.o.1 z a2.o ?_;intro W9 k9 Q;have K9:=O (EQ k9 (Q.CV (by have:=G.o;omega) Z.o.2));have d1:=O (d0.o.ch A F.o Q);have b6:=O (Q.df (fun e=>by have:=A _ e;have:=F.o;omega) b7.o);clear k9 Q d0 b7 Z)
   | ((with_reducible refine cY (.store 114 _ _) ?_);refine af cN z (.tmp 9) (.tmp 27) z J x.cells _ z z K9.o.2 z (gj x) ?_;intro h5 a5 S;have a1:=O (EQ (S.CV (by have:=G.o;omega) K9.o.1) a5);have c9:=O (d1.o.ch A (by have:=F.o;have:=G.o;omega) S);have a7:=O (S.df (fun e=>by have:=A _ e;have:=F.o;have:=G.o;omega) b6.o);clear a5 S d1 b6 K9)
   | ((with_reducible refine cp 28 (.load 109 _) ?_);refine ac d4 d5 aj z (.tmp 8) z M U z (O a1.o.1) a2.o.1 ?_)
   | ((with_reducible refine cY (.store 109 (.tmp 3) _) ?_);refine af aj z (.tmp 3) (.tmp 28) z w.1.size U _ z z c9.o.f hl a2.o ?_;intro K d3 X;have b9:=O (X.CV (by have:=F.o;have:=G.o;omega) a1.o.2);have H:=O (c9.o.Dc A a7.o d3 X);clear d3 X c9 a7 a1;have n1:K.cell? ⟨J,1,none⟩=some (I x.kind):=(by rw[b9.o.cell];rfl);have n2:K.cell? ⟨J,2,none⟩=some (I x.slot):=(by rw[b9.o.cell];rfl);have e3:K.cell? ⟨w.1.size+1,3,none⟩=some (I sl):=(by rw[H.o.e.cell];rfl);have e4:K.cell? ⟨w.1.size+1,4,none⟩=some (.bool lo):=(by rw[H.o.e.cell];rfl);have f3:=H.o.e.frozen 3;have f4:=H.o.e.frozen 4;have g6:=O (show J≠w.1.size+1 by have:=F.o;have:=G.o;omega);clear G F s7 s8)
   |fail)
  have f2:((x.kind:Int)==100)=decide (x.kind=100):=by rw[Bool.eq_iff_iff];simp;omega
  have hq:Xq w ok Y U (gv 2 n s (x.slot:Int) (decide (x.kind=100)) V (.slice a args.length cap)) C pc ((K.setCell ⟨w.1.size+1,3,none⟩ (I x.slot)).setCell ⟨w.1.size+1,4,none⟩ (.bool ((x.kind:Int)==100))).drew:=by rw[f2];have h1:=H.o.Em A (H.o.e.set1 3 (I x.slot)) (Ch.one 3 _ _);have h2:=h1.Em A (h1.e.set1 4 (.bool (decide (x.kind=100)))) (Ch.one 4 _ _);exact h2.below (FB _ _).drew
  have d7:=O hq;have d6:Hid (R=((DF.DI (C,pc) args Y).1,.mk 2 n s (x.slot:Int) (decide (x.kind=100)) V (DF.DI (C,pc) args Y).2)):=O (by rw[HR.o,HN.o]);clear hq f2;go_region;all_goals
   generalize (Gc _ _ _).drew=h4 at *;go_wp2_with fail;refine a4.o _ _ ?_;exact kG A e2.o (f0.o trivial) HX e6 d7 d6
 by_cases f8:k=3
 .subst f8;have c2:N.cell? ⟨w.1.size+1,2,none⟩=some (.string s):=by rw[j.o.e.cell];rfl
  have p0:N.cell? ⟨w.1.size+1+1,0,none⟩=some (I C):=by rw[j.o.p.cell];rfl
  have p1:N.cell? ⟨w.1.size+1+1,1,none⟩=some (I pc):=by rw[j.o.p.cell];rfl
  obtain⟨⟨Y,x⟩,i2⟩:∃q,D.CZ s 2 2 (C,pc)=q:=⟨_,z⟩;have a0:=eV D s 2 2 (C,pc) ok cs N (fun c hc=>by have:=A c hc;have:=j.o.y.lt;omega) j.o.d;rw[i2]at a0;have HN:=O (Av (sl:=sl) (lo:=lo) i2);clear i2;go_wp2_with (first| ((with_reducible refine gU _ (.load 109 _) ?_);refine ac d4 d5 aj z (.tmp 3) z w.1.size cs z (O j.o.f) hl ?_)|fail);refine a0.mono ?_;clear a0;rintro e W6 ⟨⟨U,rfl,hd⟩,g⟩;have a3:=O (j.o.below g);have a2:=O hd.cells;have c8:=O hd;clear g hd j c0 c2 p0 p1;have a8:w.1.size+5<=W6.1.size:=by have:=a3.o.y.lt;omega
  have e0:=O a8;clear a8;go_wp2_with (first
   | ((with_reducible refine cp 10 (.alloc 109) ?_);obtain⟨M,a6⟩:∃b,W6.1.size=b:=⟨_,z⟩;refine ag e1 d8 d9 z z M a6 ?_;intro W7 k7 g s7;have K7:=O k7;have a9:=O (a3.o.below g);have b8:=O (c8.o.below g);have F:=O (show w.1.size+5<=M by have:=e0.o;omega);clear k7 g a3 c8 a6)
   | ((with_reducible refine cp 11 (.alloc 114) ?_);obtain⟨J,d2⟩:∃b,W7.1.size=b:=⟨_,z⟩;refine ag f5 g3 f9 z z J d2 ?_;intro W8 k8 g s8;have Z:=O (EQ (K7.o.below g) k8);have d0:=O (a9.o.below g);have b7:=O (b8.o.below g);have G:=O (show M+1=J by omega);clear k8 g a9 b8 K7 d2)
   | ((with_reducible refine cY (.store 109 (.tmp 10) _) ?_);refine af aj z (.tmp 10) (.tmp 44) z M U _ z z Z.o.1 z a2.o ?_;intro W9 k9 Q;have K9:=O (EQ k9 (Q.CV (by have:=G.o;omega) Z.o.2));have d1:=O (d0.o.ch A F.o Q);have b6:=O (Q.df (fun e=>by have:=A _ e;have:=F.o;omega) b7.o);clear k9 Q d0 b7 Z)
   | ((with_reducible refine cY (.store 114 _ _) ?_);refine af cN z (.tmp 11) (.tmp 45) z J x.cells _ z z K9.o.2 z (gj x) ?_;intro h5 a5 S;have a1:=O (EQ (S.CV (by have:=G.o;omega) K9.o.1) a5);have c9:=O (d1.o.ch A (by have:=F.o;have:=G.o;omega) S);have a7:=O (S.df (fun e=>by have:=A _ e;have:=F.o;have:=G.o;omega) b6.o);clear a5 S d1 b6 K9)
   | ((with_reducible refine cp 46 (.load 109 _) ?_);refine ac d4 d5 aj z (.tmp 10) z M U z (O a1.o.1) a2.o.1 ?_)
   | ((with_reducible refine cY (.store 109 (.tmp 3) _) ?_);refine af aj z (.tmp 3) (.tmp 46) z w.1.size U _ z z c9.o.f hl a2.o ?_;intro K d3 X;have b9:=O (X.CV (by have:=F.o;have:=G.o;omega) a1.o.2);have H:=O (c9.o.Dc A a7.o d3 X);clear d3 X c9 a7 a1;have n1:K.cell? ⟨J,1,none⟩=some (I x.kind):=(by rw[b9.o.cell];rfl);have n2:K.cell? ⟨J,2,none⟩=some (I x.slot):=(by rw[b9.o.cell];rfl);have e3:K.cell? ⟨w.1.size+1,3,none⟩=some (I sl):=(by rw[H.o.e.cell];rfl);have e4:K.cell? ⟨w.1.size+1,4,none⟩=some (.bool lo):=(by rw[H.o.e.cell];rfl);have f3:=H.o.e.frozen 3;have f4:=H.o.e.frozen 4;have g6:=O (show J≠w.1.size+1 by have:=F.o;have:=G.o;omega);clear G F s7 s8)
   |fail)
  have hq:Xq w ok Y U (gv 3 n s (x.slot:Int) lo V (.slice a args.length cap)) C pc (K.setCell ⟨w.1.size+1,3,none⟩ (.int .i64 (x.slot:Int))):=H.o.Em A (H.o.e.set1 3 (I x.slot)) (Ch.one 3 _ _);have d7:=O hq;have d6:Hid (R=((DF.DI (C,pc) args Y).1,.mk 3 n s (x.slot:Int) lo V (DF.DI (C,pc) args Y).2)):=O (by rw[HR.o,HN.o]);clear hq;generalize Gc _ _ _=h4 at *;refine a4.o _ _ ?_;exact kG A e2 (f0 trivial) HX e6 d7 d6
 .go_wp2;refine a4.o _ _ ?_;exact kG A e2 (f0 trivial) HX e6 j (O (by rw[HR.o,Az f7 f8]))
mutual
def Ex.sm:Ex->Prop
 | .mk _ _ _ _ _ _ args=>args.length<=10000000/\Ex.DO args
def Ex.DO:List Ex->Prop
 | []=>True
 |x::r=>x.sm/\Ex.DO r
end
mutual
theorem mI {nm:ByteArray->Bool}:∀ (e:Ex) {d:Nat},de nm e d=true->e.sm
 | .mk k n s sl lo o args,d,h=>by
  rw[db]at h
  simp only[FG,decide_eq_true_eq]at h
  obtain⟨-,-,-,-,-,h1,h2⟩:=h
  unfold Ex.sm
  refine⟨?_,od args h2⟩
  rw[h1]
  unfold dR
  split
  .decide
  .split<;>decide
theorem od {nm:ByteArray->Bool}:∀ (l:List Ex) {d:Nat},di nm l d=true->Ex.DO l
 | [],_,_=>by unfold Ex.DO;trivial
 |x::r,d,h=>by
  unfold di at h
  rw[List.all_cons,FG]at h
  unfold Ex.DO
  exact⟨mI x h.1,od r h.2⟩
end
theorem ul(h:iB e=true):e.sm:=by
 let ⟨k,n,s,sl,lo,o,args⟩:=e
 unfold iB at h;simp only[FG,decide_eq_true_eq]at h;have:=List.length_eq_zero_iff.1 h.2.2.2.2;subst this;unfold Ex.sm Ex.DO;exact⟨by decide,trivial⟩
mutual
theorem mF (p:Int×Int):∀ (e:Ex),e.sm->∀ (ok:Nat->Prop) (D:DF) (cs ec:List Fr) (w:Fk),(∀c,ok c->c<w.1.size)->aG ok w D cs->ExL (fun _=>True) w ec e->Jq Tryz.prog 118 #[.agg cs.toArray,.agg ec.toArray,.agg #[.int .i64 p.1,.int .i64 p.2]] w (xC ok w (DF.ex p e D))
 | .mk k n s sl lo op args,h,ok,D,cs,ec,w,hok,hD,hX=>by
  unfold Ex.sm at h
  exact tO k n s sl lo op args p ok h.1 (fun x hx D cs xs W h1 h2 h3=>nO p args h.2 x hx ok D cs xs W h1 h2 h3) D cs ec w hok hD hX
theorem nO (p:Int×Int):∀ (l:List Ex),Ex.DO l->∀x∈l,∀ (ok:Nat->Prop) (D:DF) (cs ec:List Fr) (w:Fk),(∀c,ok c->c<w.1.size)->aG ok w D cs->ExL (fun _=>True) w ec x->Jq Tryz.prog 118 #[.agg cs.toArray,.agg ec.toArray,.agg #[.int .i64 p.1,.int .i64 p.2]] w (xC ok w (DF.ex p x D))
 | [],_,x,hx,_,_,_,_,_,_,_,_=>by cases hx
 |y::r,h,x,hx,ok,D,cs,ec,w,hok,hD,hX=>by
  unfold Ex.DO at h
  by_cases e:x=y
  .rw[e]at hX ⊢
   exact mF p y h.1 ok D cs ec w hok hD hX
  .exact nO p r h.2 x ((FQ.1 hx).resolve_left e) ok D cs ec w hok hD hX
end
theorem hj:∃d,prog.underlying 60=some d/\d.isRow=true:=by
 have h:(prog.underlying 60).map (·.isRow)=some true:=by kernel_rfl
 let ⟨d,j,g⟩:=Option.map_eq_some_iff.1 h
 exact⟨d,j,g⟩
def yi:List Fr:=[.int .i64 0,.int .i64 0,.int .i64 0,.string ⟨#[]⟩,.string ⟨#[]⟩,.int .i64 0,.int .i64 0,.string ⟨#[]⟩,.int .i64 0,.bool false,.int .i64 0,.slice none 0 0,.int .i64 0,.int .i64 0,.string ⟨#[]⟩,.int .i64 0,.bool false,.int .i64 0,.slice none 0 0,.slice none 0 0,.slice none 0 0,.int .i64 0,.int .i64 0,.int .i64 0,.bool false]
theorem ki:∃i z,prog.info? 60=some i/\i.zero=some z/\z.cells=yi.toArray:=fH (by kernel_rfl)
def cO(k l c:Int)(s t:ByteArray)(xc yc:List Fr)(bv ev:Fr)(id sl ot:Int)(lo:Bool):List Fr:= .int .i64 k:: .int .i64 l:: .int .i64 c:: .string s:: .string t::(xc++(yc++[bv,ev,.int .i64 id,.int .i64 sl,.int .i64 ot,.bool lo]))
theorem vO(h:l.length=7):∃a b c d e f g,l=[a,b,c,d,e,f,g]:=by rcases l with _|⟨a,_|⟨b,_|⟨c,_|⟨d,_|⟨e,_|⟨f,_|⟨g,_|⟨i,r⟩⟩⟩⟩⟩⟩⟩⟩;all_goals first|exact⟨_,_,_,_,_,_,_,z⟩|simp at h
theorem hk{k l c:Int}{cap:Nat}{id sl ot:Int}{lo:Bool}(w:l2.length=7/\∀v∈l2,v.oneCell'=true)(A:l3.length=7/\∀v∈l3,v.oneCell'=true):(cO k l c s t l2 l3 (.slice a n cap) (.slice a0 j g) id sl ot lo).length=25/\∀v∈cO k l c s t l2 l3 (.slice a n cap) (.slice a0 j g) id sl ot lo,v.oneCell'=true:=by refine⟨by simp[cO,w.1,A.1],fun v C=>?_⟩;simp only[cO,FQ,List.mem_append,FO,or_false]at C;rcases C with rfl|rfl|rfl|rfl|rfl|h|h|rfl|rfl|rfl|rfl|rfl|rfl;all_goals first|rfl|exact w.2 v h|exact A.2 v h
theorem bR{k l c:Int}{bv ev:Fr}{id sl ot:Int}{lo:Bool}{C:List Fr}(j:C=cO k l c s t l2 l3 bv ev id sl ot lo)(g:l2.length=7)(w:l3.length=7):C[0]? =some (I k)/\C[1]? =some (I l)/\C[2]? =some (I c)/\C[3]? =some (.string s)/\C[4]? =some (.string t)/\C[19]? =some bv/\C[20]? =some ev/\C[21]? =some (I id)/\C[22]? =some (I sl)/\C[23]? =some (I ot)/\C[24]? =some (.bool lo):=by obtain⟨G,F,K,J,H,E,A,rfl⟩:=vO g;obtain⟨b0,b1,b2,b3,M,D,N,rfl⟩:=vO w;subst j;exact⟨z,z,z,z,z,z,z,z,z,z,z⟩
section
variable {k l c:Int} {s t:ByteArray} {xc yc:List Fr} {bv ev:Fr} {id sl ot:Int} {lo:Bool}
theorem cC(g:xc.length=7)(j:yc.length=7)(v:Fr)(i:Int)(b:Bool):(cO k l c s t xc yc bv ev id sl ot lo).set 19 v=cO k l c s t xc yc v ev id sl ot lo/\(cO k l c s t xc yc bv ev id sl ot lo).set 20 v=cO k l c s t xc yc bv v id sl ot lo/\(cO k l c s t xc yc bv ev id sl ot lo).set 21 (I i)=cO k l c s t xc yc bv ev i sl ot lo/\(cO k l c s t xc yc bv ev id sl ot lo).set 22 (I i)=cO k l c s t xc yc bv ev id i ot lo/\(cO k l c s t xc yc bv ev id sl ot lo).set 23 (I i)=cO k l c s t xc yc bv ev id sl i lo/\(cO k l c s t xc yc bv ev id sl ot lo).set 24 (.bool b)=cO k l c s t xc yc bv ev id sl ot b:=by obtain⟨E,C,H,G,F,D,w,rfl⟩:=vO g;obtain⟨b0,b1,b2,b3,J,A,K,rfl⟩:=vO j;exact⟨z,z,z,z,z,z⟩
end
structure lp (w:Fk) (cs sc:List Fr) (W:Fk):Prop where
 b:FM w.1.size w W
 f:ak W w.1.size 109 cs
 s:ak W (w.1.size+1) 60 sc
 z:ak W (w.1.size+1+1) 109 nx
 y:ak W (w.1.size+1+1+1) 60 yi
def jp(ok:Nat->Prop)(w W:Fk)(c:Nat):Prop:=(ok c∨w.1.size+4<=c)/\c<W.1.size
section
variable {w W W':Fk} {cs cs' sc sc':List Fr}
theorem lp.below(h:lp w cs sc W)(g:bL W W'):lp w cs sc W':=⟨h.b.trans (g.mono h.b.size),h.f.below g,h.s.below g,h.z.below g,h.y.below g⟩
theorem lp.lt(h:lp w cs sc W):w.1.size+4<=W.1.size:=by have:=h.y.lt;omega
theorem lp.ch(h:lp w cs sc W)(j:w.1.size+4<=b)(g:Ch b W W'):lp w cs sc W':=⟨g.below (by omega) h.b,g.CV (by omega) h.f,g.CV (by omega) h.s,g.CV (by omega) h.z,g.CV (by omega) h.y⟩
theorem lp.Dc(h:lp w cs sc W)(j:ak W' w.1.size 109 cs')(g:Ch w.1.size W W'):lp w cs' sc W':=⟨g.below (by omega) h.b,j,g.CV (by omega) h.s,g.CV (by omega) h.z,g.CV (by omega) h.y⟩
theorem lp.Dw(h:lp w cs sc W)(j:ak W' (w.1.size+1) 60 sc')(g:Ch (w.1.size+1) W W'):lp w cs sc' W':=⟨g.below (by omega) h.b,g.CV (by omega) h.f,j,g.CV (by omega) h.z,g.CV (by omega) h.y⟩
theorem aG.tight{ok:Nat->Prop}(h:aG ok W D cs):aG (fun c=>ok c/\c<W.1.size) W D cs:=by
 have A:∀ {G:Type} {E:El G} {v:Fr} {l:List G},0<E.sz->Ro E ok W v l->Ro E (fun c=>ok c/\c<W.1.size) W v l:=fun {G E v l} h0 ⟨a,cap,F,g,C⟩=>⟨a,cap,F,g,fun j x N=>by
  let ⟨b,M,cs,X,Y,H,J⟩:=C j x N
  have hl:=(E.cells J).1;have U:=H 0 cs[0] (FC (by omega));exact⟨b,M,cs,X,⟨Y,World.block_lt_of_cell? W _ U⟩,H,E.bound J⟩⟩
 let ⟨Z,S,R,K,Q,n1,n2,n3,n4,V,F,g,C⟩:=h
 exact⟨Z,S,R,K,Q,n1,n2,n3,n4,V,F,⟨A (by decide) g.vars,A (by decide) g.CW,A (by decide) g.CX,A (by decide) g.threads,A (by decide) g.nv,A (by decide) g.na,A (by decide) g.nm,A (by decide) g.nc,A (by decide) g.nh⟩,A (by decide) C⟩
theorem eN{ok:Nat->Prop}(h:aG (jp ok w W) W D cs)(g:bL W W'):aG (jp ok w W') W' D cs:=(h.below g).CQ fun _ j=>⟨j.1,FJ j.2 g.size⟩
theorem bx{ok:Nat->Prop}(A:∀c,ok c->c<w.1.size)(h:aG (jp ok w W) W D cs)(g:Ch b W W')(E:w.1.size<=b)(C:b<w.1.size+4):aG (jp ok w W') W' D cs:=(g.df (fun e=>by
 rcases e.1 with e|e
 .have:=A _ e;omega
 .omega) h).CQ fun c j=>⟨j.1,by rw[g.size];exact j.2⟩
theorem Ch.Dz(h:Ch b W W'){cs:List Fr}{x:Ex}(g:ExL (w.1.size+4<=·) W cs x)(A:b<w.1.size+4):ExL (w.1.size+4<=·) W' cs x:=h.ex (fun c j=>by have C:w.1.size+4<=c:=j;omega) g
theorem Ch.Ew(h:Ch b W W'){l:List St}(g:aE (w.1.size+4<=·) W a 0 l)(C:b<w.1.size+4):aE (w.1.size+4<=·) W' a 0 l:=g.keep fun c o u A j=>by have D:=A;rw[h.cell (by omega)];exact j
theorem ExL.Do{ok:Nat->Prop}{cs:List Fr}{x:Ex}(g:ExL ok W cs x)(A:bL W W'):ExL ok W' cs x:=g.keep fun b o v _ j=>ai A b o v j
theorem aE.Do{ok:Nat->Prop}{l:List St}(g:aE ok W a 0 l)(A:bL W W'):aE ok W' a 0 l:=g.keep fun b o v _ j=>ai A b o v j
end
def zQ(ok:Nat->Prop)(w:Fk)(R:DF×List St)(e:GP)(w':Fk):Prop:=(∃ds a n cap,e= .returned (.tuple #[.agg ds.toArray,.slice a n cap])/\aG (fun c=>ok c∨w.1.size<=c) w' R.1 ds/\(R.1.CR=0->n=R.2.length/\aF n cap/\aE (w.1.size<=·) w' a 0 R.2))/\FM w.1.size w w'
def qR(l:List St):Prop:=∀ (ok:Nat->Prop) (D:DF) (cs:List Fr) (W:Fk) (a:Option Addr) (cap:Nat),(∀c,ok c->c<W.1.size)->aG ok W D cs->aF l.length cap->aE (fun _=>True) W a 0 l->hz D->Jq prog 42 #[.agg cs.toArray,.slice a l.length cap] W (zQ ok W (DF.CV l D))
def zF(ok:Nat->Prop)(w:Fk)(R:DF×St)(e:GP)(w':Fk):Prop:=(∃ds ss,e= .returned (.tuple #[.agg ds.toArray,.agg ss.toArray])/\aG (fun c=>ok c∨w.1.size<=c) w' R.1 ds/\(ss.length=25/\∀v∈ss,v.oneCell'=true)/\(R.1.CR=0->bX (w.1.size<=·) w' ss R.2))/\FM w.1.size w w'
theorem ss{l:List St}(h:(DF.CV l D).1.CR=0):D.CR=0:=by
 by_cases e:D.CR=0
 .exact e
 .have g:(DF.Dp l D).1.CR=0:=h;rw[ep e l]at g;exact g
theorem nE{ok:Nat->Prop}(hd:aG (fun c=>jp ok w W c∨W.1.size<=c) V D l2)(j:w.1.size+4<=W.1.size):aG (jp ok w V) V D l2:=hd.tight.CQ fun c g=>⟨by
 rcases g.1 with h|h
 .exact h.1
 .exact .inr (by omega),g.2⟩
theorem qb{ok:Nat->Prop}{cs:List Fr}{k l c:Int}{x y:Ex}{body els:List St}{id sl ot:Int}{lo:Bool}(a7:∀c,ok c->c<w.1.size)(hI:hz D)
  (Q:Hid (lp w cs (cO k l c s t l2 l3 (.slice a1 body.length g) (.slice a0 els.length j) id sl ot lo) W))(HD:Hid (aG (jp ok w W) W D cs))(HX:Hid (ExL (w.1.size+4<=·) W l2 x))(HY:Hid (ExL (w.1.size+4<=·) W l3 y))
  (HB:Hid (aF body.length g/\aE (fun _=>True) w a1 0 body))(HE:Hid (aF els.length j/\aE (fun _=>True) w a0 0 els))(IB:Hid (qR body))(IE:Hid (qR els)){R:DF×St}
  (HR:Hid (R=((DF.CV els (DF.CV body D).1).1,.mk k l c s t x y (DF.CV body D).2 (DF.CV els (DF.CV body D).1).2 id sl ot lo)))(hU:l4.length=172:=by rfl):
  FR prog (Jp 10 (f81.body.getD .skip)) (Gb prog f81 (zF ok w R)) ⟨(v0::v1::Pt w.1.size::Pt (w.1.size+1)::Pt (w.1.size+1+1)::Pt (w.1.size+1+1+1)::l4).toArray,[]⟩ W:=by
 revert l4;apply aN;iterate 172 intro _
 change FR _ _ _ _ _;obtain⟨du,b9,c9⟩:=cd;obtain⟨j4,j0,f1⟩:=hj;have a3:=O HX.o.cells;have a6:=O HY.o.cells;have h7:=O HD.o.cells;obtain⟨NB,f8⟩:∃n,body.length=n:=⟨_,z⟩;obtain⟨X,d8⟩:=eX (els.length);have d5:=IB.o (jp ok w W) D cs W a1 g (fun c J=>J.2) HD.o HB.o.1 (HB.o.2.Do Q.o.b) hI;rw[f8]at Q d5;rw[d8]at Q;have j9:=O d8;clear f8 d8;have M:=O (bR z a3.o.1 a6.o.1 (C:=cO k l c s t l2 l3 (.slice a1 NB g) (.slice a0 X j) id sl ot lo));have c19:W.cell? ⟨w.1.size+1,19,none⟩=some (.slice a1 NB g):=by rw[Q.o.s.cell];exact M.o.2.2.2.2.2.1
 obtain⟨⟨U,lb⟩,e6⟩:∃q,DF.CV body D=q:=⟨_,z⟩;rw[e6]at d5 HR;obtain⟨⟨D2,le⟩,b7⟩:∃q,DF.CV els U=q:=⟨_,z⟩;rw[b7]at HR;have h3:D2.CR=0->U.CR=0:=fun h=>ss (l:=els) (by rw[b7];exact h);have k6:=O h3;have k0:=O b7;have j5:Hid (hz U):=O (by have:=qz body hI;rw[e6]at this;exact this);clear e6 b7 h3 hI;conv in (Jp _ _)=>whnf
 refine wk fun KK a9=>?_;go_wp2_with (first| (with_reducible refine l0 109 ?_;refine ac b9 c9 aj z (.tmp 2) z w.1.size cs z (O Q.o.f) h7.o.1 ?_));refine d5.mono ?_;rintro e W1 ⟨⟨ds,A,n1,E,rfl,hd,S⟩,H⟩;have e1:=O (Q.o.below H);have h6:=O (HX.o.Do H);have g9:=O (HY.o.Do H);have j1:=O (nE hd Q.o.lt);have d4:Hid (U.CR=0->n1=lb.length/\aF n1 E/\aE (w.1.size+4<=·) W1 A 0 lb):=O fun h=>⟨(S h).1,(S h).2.1,(S h).2.2.CQ fun c J=>by have h1:W.1.size<=c:=J;have h2:=Q.o.lt;show w.1.size+4<=c;omega⟩;have e4:=O hd.cells;clear d5 hd S H Q HX HY HD c19 M;go_wp2_with (first
  | (with_reducible refine s0 109 ?_;refine af aj z (.tmp 2) (.tmp 165) z w.1.size ds _ z z e1.o.f h7.o.1 e4.o ?_;intro Y k2 c2;have b4:=O (e1.o.Dc k2 c2);have i4:=O (c2.Dz h6.o (by omega));have i5:=O (c2.Dz g9.o (by omega));have i1:=O (bx a7 j1.o c2 (by omega) (by omega));have d2:Hid (U.CR=0->n1=lb.length/\aF n1 E/\aE (w.1.size+4<=·) Y A 0 lb):=(O fun h=>⟨(d4.o h).1,(d4.o h).2.1,c2.Ew (d4.o h).2.2 (by omega)⟩);clear k2 c2 e1 h6 g9 j1 d4;have M:=O (bR z a3.o.1 a6.o.1 (C:=cO k l c s t l2 l3 (.slice a1 NB g) (.slice a0 X j) id sl ot lo));have c19:Y.cell? ⟨w.1.size+1,19,none⟩=some (.slice a1 NB g):=(by rw[b4.o.s.cell];exact M.o.2.2.2.2.2.1);have j8:=b4.o.s.frozen 19)
 )
 refine a9.o _ _ ?_;clear a9 KK c19 j8 M;have a8:=O ((cC (k:=k) (l:=l) (c:=c) (s:=s) (t:=t) (bv:= .slice a1 NB g) (ev:= .slice a0 X j) (id:=id) (sl:=sl) (ot:=ot) (lo:=lo) a3.o.1 a6.o.1 (.slice A n1 E) 0 false).1);have e2:=b4.o.Dw (b4.o.s.set1 19 (.slice A n1 E)) (Ch.one 19 _ Y);rw[a8.o]at e2;have h8:=bx a7 i1.o (Ch.one (b:=w.1.size+1) 19 (.slice A n1 E) Y) (by omega) (by omega);have f4:=(Ch.one (b:=w.1.size+1) 19 (.slice A n1 E) Y).Dz i4.o (by omega);have f9:=(Ch.one (b:=w.1.size+1) 19 (.slice A n1 E) Y).Dz i5.o (by omega)
 have f5:U.CR=0->n1=lb.length/\aF n1 E/\aE (w.1.size+4<=·) (Y.setCell ⟨w.1.size+1,19,none⟩ (.slice A n1 E)) A 0 lb:=fun h=>⟨(d2.o h).1,(d2.o h).2.1,(Ch.one (b:=w.1.size+1) 19 (.slice A n1 E) Y).Ew (d2.o h).2.2 (by omega)⟩;have a5:=O e2;have f0:=O h8;have f2:=O f4;have g7:=O f9;have b8:=O f5;clear e2 h8 f4 f9 f5 b4 i1 i4 i5 d2 a8;generalize Gc _ _ _=W3 at *;have M:=O (bR z a3.o.1 a6.o.1 (C:=cO k l c s t l2 l3 (.slice A n1 E) (.slice a0 X j) id sl ot lo));have d6:W3.cell? ⟨w.1.size+1,20,none⟩=some (.slice a0 X j):=by rw[a5.o.s.cell];exact M.o.2.2.2.2.2.2.1
 have e7:=IE.o (jp ok w W3) U ds W3 a0 j (fun c J=>J.2) f0.o HE.o.1 (HE.o.2.Do a5.o.b) j5.o;rw[j9.o,k0.o]at e7;refine wk fun KK a9=>?_;go_wp2_with (first| (with_reducible refine l0 109 ?_;refine ac b9 c9 aj z (.tmp 2) z w.1.size ds z (O a5.o.f) e4.o.1 ?_));refine e7.mono ?_;rintro e W4 ⟨⟨V,G,n2,F,rfl,hd,S⟩,H⟩;have d9:=O (a5.o.below H);have i6:=O (f2.o.Do H);have i3:=O (g7.o.Do H);have i2:=O (nE hd a5.o.lt);have d3:Hid (D2.CR=0->n2=le.length/\aF n2 F/\aE (w.1.size+4<=·) W4 G 0 le):=O fun h=>⟨(S h).1,(S h).2.1,(S h).2.2.CQ fun c J=>by have h1:W3.1.size<=c:=J;have h2:=a5.o.lt;show w.1.size+4<=c;omega⟩
 have d0:Hid (U.CR=0->n1=lb.length/\aF n1 E/\aE (w.1.size+4<=·) W4 A 0 lb):=O fun h=>⟨(b8.o h).1,(b8.o h).2.1,(b8.o h).2.2.Do H⟩;have d1:=O hd.cells;clear e7 hd S H a5 f2 g7 f0 b8 d6 M;go_wp2_with (first
  | (with_reducible refine s0 109 ?_;refine af aj z (.tmp 2) (.tmp 173) z w.1.size V _ z z d9.o.f e4.o.1 d1.o ?_;intro N k5 c5;have b5:=O (d9.o.Dc k5 c5);have e9:=O (c5.Dz i6.o (by omega));have f7:=O (c5.Dz i3.o (by omega));have g8:=O (bx a7 i2.o c5 (by omega) (by omega));have i9:Hid (U.CR=0->n1=lb.length/\aF n1 E/\aE (w.1.size+4<=·) N A 0 lb):=(O fun h=>⟨(d0.o h).1,(d0.o h).2.1,c5.Ew (d0.o h).2.2 (by omega)⟩);have f3:Hid (D2.CR=0->n2=le.length/\aF n2 F/\aE (w.1.size+4<=·) N G 0 le):=(O fun h=>⟨(d3.o h).1,(d3.o h).2.1,c5.Ew (d3.o h).2.2 (by omega)⟩);clear k5 c5 d9 i6 i3 i2 d0 d3;have M:=O (bR z a3.o.1 a6.o.1 (C:=cO k l c s t l2 l3 (.slice A n1 E) (.slice a0 X j) id sl ot lo));have d6:N.cell? ⟨w.1.size+1,20,none⟩=some (.slice a0 X j):=(by rw[b5.o.s.cell];exact M.o.2.2.2.2.2.2.1);have j6:=b5.o.s.frozen 20)
 )
 refine a9.o _ _ ?_;clear a9 KK d6 j6 M;have a8:=O ((cC (k:=k) (l:=l) (c:=c) (s:=s) (t:=t) (bv:= .slice A n1 E) (ev:= .slice a0 X j) (id:=id) (sl:=sl) (ot:=ot) (lo:=lo) a3.1 a6.1 (.slice G n2 F) 0 false).2.1);have e5:=b5.Dw (b5.s.set1 20 (.slice G n2 F)) (Ch.one 20 _ N);rw[a8.o]at e5;have i0:=bx a7 g8 (Ch.one (b:=w.1.size+1) 20 (.slice G n2 F) N) (by omega) (by omega);have i7:=(Ch.one (b:=w.1.size+1) 20 (.slice G n2 F) N).Dz e9 (by omega);have f6:=(Ch.one (b:=w.1.size+1) 20 (.slice G n2 F) N).Dz f7 (by omega)
 have i8:D2.CR=0->bX (w.1.size+4<=·) (N.setCell (ad (w.1.size+1) 20) (.slice G n2 F)) (cO k l c s t l2 l3 (.slice A n1 E) (.slice G n2 F) id sl ot lo) (.mk k l c s t x y lb le id sl ot lo):=fun h=>by
  let ⟨g1,g2,g3⟩:=i9 (k6 h)
  let ⟨g4,g5,g6⟩:=f3 h
  unfold bX;exact⟨l2,l3,A,G,E,F,by rw[<-g1,<-g4];rfl,i7,f6,g1▸g2,(Ch.one (b:=w.1.size+1) 20 (.slice G n2 F) N).Ew g3 (by omega),g4▸g5,(Ch.one (b:=w.1.size+1) 20 (.slice G n2 F) N).Ew g6 (by omega)⟩
 have e0:=O e5;have h9:=O i0;have d7:=O i8;clear e5 i0 i7 f6 i8 b5 g8 e9 f7 i9 f3 a8;generalize Gc _ _ _=W6 at *;let ⟨K,e3⟩:=eX (cO k l c s t l2 l3 (.slice A n1 E) (.slice G n2 F) id sl ot lo)
 have b6:Hid (K.length=25/\∀v∈K,v.oneCell'=true):=O (by rw[<-e3];exact hk a3 a6);rw[e3]at e0 d7;clear e3;go_wp2;have j3:prog.follows .mixedOrders=true:=by kernel_rfl
 let ⟨a2,hV⟩:=eX (W6.drew)
 have a4:Hid (lp w V K a2):=O (by rw[<-hV];exact e0.below (FB _ W6).drew);have j7:Hid (aG (jp ok w a2) a2 D2 V):=O (by rw[<-hV];exact eN h9 (FB _ W6).drew);have k1:Hid (D2.CR=0->bX (w.1.size+4<=·) a2 K (.mk k l c s t x y lb le id sl ot lo)):=O fun h=>by rw[<-hV];exact(d7 h).keep fun b o v _ hv=>ai (FB _ W6).drew b o v hv
 clear e0 h9 d7;apply al [3] (fun W=>ak W w.1.size 109 V/\ak W (w.1.size+1) 60 K) j3;rw[hV];have h5:Hid (ak a2 w.1.size 109 V/\ak a2 (w.1.size+1) 60 K):=O ⟨a4.f,a4.s⟩;refine tl 0 176 h5 109 2 w.1.size 0 V du (fun W hS=>hS.1.whole) b9 c9 (by rw[d1.o.1];exact aj) ?_;refine tl 1 177 h5 60 3 (w.1.size+1) 0 K j4 (fun W hS=>hS.2.whole) j0 f1 (by rw[b6.o.1];exact ar) ?_;refine nm ?_;refine oD 2 fun e8 hK=>?_;refine an aj (.tmp 4) (.tmp 176) z (w.1.size+1+1) V _ z z a4.z z d1 ?_;intro W7 k7 c7;have Z:=O (EQ k7 c7);clear k7 c7;apply hK _ _ (fun _=>⟨Z.2.CV (by omega) a4.f,Z.2.CV (by omega) a4.s⟩);clear hK e8;refine oD 3 fun e8 hK=>?_
 refine an ar (.tmp 5) (.tmp 177) z (w.1.size+1+1+1) K _ z z (Z.2.CV (by omega) a4.y) z b6 ?_;intro W8 k8 c8;have K8:=O (EQ k8 c8);clear k8 c8;apply hK _ _ nofun;clear hK e8;simp only[Gf];refine dn ?_;have j2:zF ok w R (.returned (.tuple #[.agg V.toArray,.agg K.toArray])) W8:=by
  rw[HR.o];refine⟨⟨V,K,z,(K8.2.df (fun e=>?_) (Z.2.df (fun e=>?_) j7)).CQ fun c J=>?_,b6,fun h=>?_⟩,K8.2.below (by omega) (Z.2.below (by omega) a4.b)⟩
  .rcases e.1 with e|e
   .have:=a7 _ e;omega
   .omega
  .rcases e.1 with e|e
   .have:=a7 _ e;omega
   .omega
  .rcases J.1 with h|h
   .exact .inl h
   .exact .inr (by omega)
  .have h0:=(k1 h).keep (w':=W8) fun b o v H hv=>by have l5:w.1.size+4<=b:=H;rw[K8.o.2.cell (by omega),Z.o.2.cell (by omega)];exact hv
   exact h0.CQ fun c J=>by have k9:w.1.size+4<=c:=J;show w.1.size<=c;omega
 have h4:=K8.2.CV (show w.1.size+1+1≠w.1.size+1+1+1 by omega) Z.1;have HF:=O (EQ h4 j2);clear j2 h4;go_wp2;exact ge b9 c9 aj j0 f1 ar HF.1 d1.1 K8.1 b6.1 z z z z HF.2
section
variable {w W W':Fk} {cs:List Fr} {ok:Nat→Prop} {D:DF}
theorem aG.Eg(h:aG ok w D cs){l:List Nm}(g:Ro ma ok w v l):aG ok w {D with names:=l} (cs.set 13 v):=by obtain⟨F,C,G,E,A,n1,n2,n3,n4,J,rfl,j,H⟩:=h;exact⟨F,C,G,E,A,n1,n2,n3,n4,v,z,j,g⟩
theorem aG.EG(h:aG ok w D cs)(n:Nat):aG ok w {D with locals:=n} (cs.set 15 (I n)):=by obtain⟨G,E,H,F,C,n1,n2,n3,n4,A,rfl,j,g⟩:=h;exact⟨G,E,H,F,C,n1,n2,n3,n4,A,z,j,g⟩
theorem aG.EI(h:aG ok w D cs)(n:Nat):aG ok w {D with CY:=n} (cs.set 16 (I n)):=by obtain⟨G,E,H,F,C,n1,n2,n3,n4,A,rfl,j,g⟩:=h;exact⟨G,E,H,F,C,n1,n2,n3,n4,A,z,j,g⟩
theorem aG.c7(h:aG ok w D cs):cs[7]? =some (I D.P.stmts)/\cs[15]? =some (I D.locals)/\cs[16]? =some (I D.CY)/\∃g,cs[13]? =some g/\Ro ma ok w g D.names:=by obtain⟨G,E,H,F,C,n1,n2,n3,n4,g,rfl,A,j⟩:=h;exact⟨z,z,z,g,z,j⟩
theorem aG.inc(h:aG ok w D cs):aG ok w D.inc (cs.set 7 (I ((D.P.stmts:Int)+1))):=by obtain⟨G,E,H,F,C,n1,n2,n3,n4,A,rfl,g,j⟩:=h;exact⟨G,E,H,F,C,n1,n2,n3,n4,A,z,⟨g.vars,g.CW,g.CX,g.threads,g.nv,g.na,g.nm,g.nc,g.nh⟩,j⟩
def zL(w W:Fk)(c:Nat):Prop:=w.1.size+4<=c/\c<W.1.size
theorem sj:(prog.info? 114).map (fun i=> (i.zero.map (fun z=>z.cells.size),i.size,decide (i.bytes<=1024)))=some (some 3,3,true):=by kernel_rfl
theorem fu(h:aG (jp ok w W) W' D l2)(j:W.1.size<=W'.1.size):aG (jp ok w W') W' D l2:=h.CQ fun c g=>⟨g.1,by have:=g.2;omega⟩
end
theorem xz{ok:Nat->Prop}{cs:List Fr}{k l c:Int}{x y:Ex}{body els:List St}{id sl ot:Int}{lo:Bool}(S:∀c,ok c->c<w.1.size)(hI:hz D)(hl:D.locals<=32)
  (N:Hid (lp w cs (cO k l c s t l2 l3 (.slice a0 body.length j) (.slice a1 els.length n0) id sl ot lo) W))(HD:Hid (aG (jp ok w W) W D cs))(HX:Hid (ExL (w.1.size+4<=·) W l2 x))(HY:Hid (ExL (w.1.size+4<=·) W l3 y))
  (HB:Hid (aF body.length j/\aE (fun _=>True) w a0 0 body))(HE:Hid (aF els.length n0/\aE (fun _=>True) w a1 0 els))(IB:Hid (qR body))(IE:Hid (qR els)){R:DF×St}
  (HR:Hid (R=((DF.CV els (DF.CV body (D.stM (l,c) k s t sl ot lo).1).1).1,.mk k l c s t x y (DF.CV body (D.stM (l,c) k s t sl ot lo).1).2 (DF.CV els (DF.CV body (D.stM (l,c) k s t sl ot lo).1).1).2 id (D.stM (l,c) k s t sl ot lo).2.1 (D.stM (l,c) k s t sl ot lo).2.2.1 (D.stM (l,c) k s t sl ot lo).2.2.2)))(hU:l4.length=171:=by rfl):
  FR prog (Jp 9 (f81.body.getD .skip)) (Gb prog f81 (zF ok w R)) ⟨(v0::v1::Pt w.1.size::Pt (w.1.size+1)::Pt (w.1.size+1+1)::Pt (w.1.size+1+1+1)::I k::l4).toArray,[]⟩ W:=by
 revert l4;apply aN;iterate 171 intro _
 change FR _ _ _ _ _;obtain⟨du,d9,d7⟩:=cd;obtain⟨v7,v6,v9⟩:=hY;obtain⟨i9,z9,p7,q7,p9⟩:=em;obtain⟨i4,z4,p5,o8,h0⟩:=jI;have d4:=O HX.o.cells;have d2:=O HY.o.cells;have a6:=O HD.o.cells;have F:=O (bR z d4.o.1 d2.o.1 (C:=cO k l c s t l2 l3 (.slice a0 body.length j) (.slice a1 els.length n0) id sl ot lo));conv in (Jp _ _)=>whnf
 refine wk fun KK m7=>?_;by_cases h8:k=8
 .subst h8;have h0:W.cell? ⟨w.1.size+1,4,none⟩=some (.string t):=by rw[N.o.s.cell];exact F.o.2.2.2.2.1
  have o5:W.cell? ⟨w.1.size+1,1,none⟩=some (I l):=by rw[N.o.s.cell];exact F.o.2.1
  have o7:W.cell? ⟨w.1.size+1,2,none⟩=some (I c):=by rw[N.o.s.cell];exact F.o.2.2.1
  obtain⟨⟨D3,n⟩,g4⟩:∃q,D.CZ t 3 3 (l,c)=q:=⟨_,z⟩;have c8:=eV D t 3 3 (l,c) (jp ok w W) cs W (fun c hc=>hc.2) HD.o;rw[g4]at c8;have Z:D.stM (l,c) 8 s t sl ot lo=(D3,sl,(n.slot:Int),lo):=by unfold DF.stM;rw[am (by decide)];rw[aD rfl,g4]
  have j2:Hid (hz D3):=O (by have:=jJ hI hl (l,c) 8 s t sl ot lo;rw[Z]at this;exact this);rw[Z]at HR;have m2:=HR;clear HR Z;clear g4;go_wp2_with (first| ((with_reducible refine gU _ (.load 109 _) ?_);refine ac d9 d7 aj z (.tmp 2) z w.1.size cs z (O N.o.f) a6.o.1 ?_)|fail);refine c8.mono ?_;clear c8;rintro e W6 ⟨⟨ds,rfl,hd⟩,A⟩;have j7:=O (N.o.below A);have l5:Hid (ExL (zL w W) W6 l2 x):=O (ExL.Do HX.o.bound A);have j3:Hid (ExL (zL w W) W6 l3 y):=O (ExL.Do HY.o.bound A);have f6:=O hd.cells;have j6:=O hd;have i7:=O A.size;have d1:=O N.o.lt;clear A hd N HX HY HD h0 o5 o7 F;go_wp2_with (first
   | ((with_reducible refine cp 11 (.alloc 109) ?_);obtain⟨bA,i8⟩:∃b,W6.1.size=b:=⟨_,z⟩;refine ag p7 q7 p9 z z bA i8 ?_;intro W7 k7 A s7;have K7:=O k7;have a2:=O (j7.o.below A);have e5:=O (l5.o.Do A);have e3:=O (j3.o.Do A);have e7:=O (j6.o.below A);have HA:=O (show W.1.size<=bA by have:=i7.o;omega);clear k7 A j7 j6 l5 j3 i8 i7)
   | ((with_reducible refine cp 12 (.alloc 114) ?_);obtain⟨bN,i6⟩:∃b,W7.1.size=b:=⟨_,z⟩;refine ag p5 o8 h0 z z bN i6 ?_;intro W8 k8 A s8;have K8:=O (EQ (K7.o.below A) k8);have g3:=O (a2.o.below A);have g5:=O (e5.o.Do A);have f4:=O (e3.o.Do A);have g2:=O (e7.o.below A);have b7:=O (show bA+1=bN by omega);clear k8 A a2 e7 e5 e3 K7 i6)
   | ((with_reducible refine cY (.store 109 (.tmp 11) _) ?_);refine af aj z (.tmp 11) (.tmp 135) z bA ds _ z z K8.o.1 z f6.o ?_;intro W9 k9 c9;have hA:=HA.o;have g6:=d1.o;have K9:=O (EQ k9 (c9.CV (by have:=b7.o;omega) K8.o.2));have j0:=O (g3.o.ch (by omega) c9);have k1:=O (c9.ex (fun e M=>by have:=M.2;omega) g5.o);have j1:=O (c9.ex (fun e M=>by have:=M.2;omega) f4.o);have i1:=O (c9.df (fun e=>by have:=e.2;omega) g2.o);clear k9 c9 g3 g2 g5 f4 K8 hA g6)
   | ((with_reducible refine cY (.store 114 _ _) ?_);refine af cN z (.tmp 12) (.tmp 136) z bN n.cells _ z z K9.o.2 z (gj n) ?_;intro u4 i3 a3;have hA:=HA.o;have m8:=b7.o;have g6:=d1.o;have d6:=O (EQ (a3.CV (by omega) K9.o.1) i3);have f5:=O (j0.o.ch (by omega) a3);have i2:=O (a3.ex (fun e M=>by have:=M.2;omega) k1.o);have k2:=O (a3.ex (fun e M=>by have:=M.2;omega) j1.o);have l7:=O (a3.df (fun e=>by have:=e.2;omega) i1.o);clear i3 a3 j0 i1 k1 j1 K9 hA m8 g6)
   | ((with_reducible refine cp 137 (.load 109 _) ?_);refine ac d9 d7 aj z (.tmp 11) z bA ds z (O d6.o.1) f6.o.1 ?_)
   | ((with_reducible refine cY (.store 109 (.tmp 2) _) ?_);refine af aj z (.tmp 2) (.tmp 137) z w.1.size ds _ z z f5.o.f a6.o.1 f6.o ?_;intro d0 h7 a4;have h9:=O (a4.CV (by have:=HA.o;have:=b7.o;have:=d1.o;omega) d6.o.2);have Q:=O (f5.o.Dc h7 a4);have m5:=O (a4.Dz (ExL.CQ (fun e M=>M.1) i2.o) (by omega));have m3:=O (a4.Dz (ExL.CQ (fun e M=>M.1) k2.o) (by omega));have l9:=O (bx S (fu l7.o (by have:=HA.o;have:=d6.o.1.lt;omega)) a4 (FL _) (by omega));clear h7 a4 f5 l7 i2 k2 d6;have n1:d0.cell? ⟨bN,1,none⟩=some (I n.kind):=(by rw[h9.o.cell];rfl);have n2:d0.cell? ⟨bN,2,none⟩=some (I n.slot):=(by rw[h9.o.cell];rfl);have F:=O (bR z d4.o.1 d2.o.1 (C:=cO 8 l c s t l2 l3 (.slice a0 body.length j) (.slice a1 els.length n0) id sl ot lo));have b5:d0.cell? ⟨w.1.size+1,22,none⟩=some (I sl):=(by rw[Q.o.s.cell];exact F.o.2.2.2.2.2.2.2.2.1);have q0:d0.cell? ⟨w.1.size+1,23,none⟩=some (I ot):=(by rw[Q.o.s.cell];exact F.o.2.2.2.2.2.2.2.2.2.1);have a8:d0.cell? ⟨w.1.size+1,24,none⟩=some (.bool lo):=(by rw[Q.o.s.cell];exact F.o.2.2.2.2.2.2.2.2.2.2);have a7:=Q.o.s.frozen 22;have r2:=Q.o.s.frozen 23;have b4:=Q.o.s.frozen 24;have u2:=O (show bN≠w.1.size+1 by have:=HA.o;have:=b7.o;have:=d1.o;omega);clear b7 HA s7 s8 F)
   |fail)
  have f1:=cC (k:=8) (l:=l) (c:=c) (s:=s) (t:=t) (bv:= .slice a0 body.length j) (ev:= .slice a1 els.length n0) (id:=id) (sl:=sl) (ot:=ot) (lo:=lo) d4.o.1 d2.o.1 (.slice none 0 0) ((n.slot:Int)) (false);have g0:=(Q.o).Dw ((Q.o).s.set1 23 (I n.slot)) (Ch.one 23 _ _);rw[f1.2.2.2.2.1]at g0;have f3:=bx S (l9.o) (Ch.one (b:=w.1.size+1) 23 (I n.slot) _) (by omega) (by omega);have f0:=(Ch.one (b:=w.1.size+1) 23 (I n.slot) _).Dz (m5.o) (by omega);have f2:=(Ch.one (b:=w.1.size+1) 23 (I n.slot) _).Dz (m3.o) (by omega);have g8:=O g0;have g7:=O f3;have g9:=O f0;have h4:=O f2;clear f1 g0 f3 f0 f2;clear n1 n2 b5 q0 a8 a7 r2 b4 Q l9 m5 m3;generalize Gc _ _ _=Wz at *;go_wp2_with fail;refine m7.o _ _ ?_
  exact qb S j2.o g8 g7 g9 h4 HB HE IB IE m2
 by_cases p8:k=12
 .subst p8;have h0:W.cell? ⟨w.1.size+1,4,none⟩=some (.string t):=by rw[N.o.s.cell];exact F.o.2.2.2.2.1
  have o5:W.cell? ⟨w.1.size+1,1,none⟩=some (I l):=by rw[N.o.s.cell];exact F.o.2.1
  have o7:W.cell? ⟨w.1.size+1,2,none⟩=some (I c):=by rw[N.o.s.cell];exact F.o.2.2.1
  obtain⟨⟨D3,n⟩,g4⟩:∃q,D.CZ t 1 100 (l,c)=q:=⟨_,z⟩;have c8:=eV D t 1 100 (l,c) (jp ok w W) cs W (fun c hc=>hc.2) HD.o;rw[g4]at c8;have Z:D.stM (l,c) 12 s t sl ot lo=(D3,sl,(n.slot:Int),decide (n.kind=100)):=by unfold DF.stM;rw[am (by decide)];rw[am (by decide)];rw[aD rfl,g4]
  have j2:Hid (hz D3):=O (by have:=jJ hI hl (l,c) 12 s t sl ot lo;rw[Z]at this;exact this);rw[Z]at HR;have m2:=HR;clear HR Z;clear g4;go_wp2_with (first| ((with_reducible refine gU _ (.load 109 _) ?_);refine ac d9 d7 aj z (.tmp 2) z w.1.size cs z (O N.o.f) a6.o.1 ?_)|fail);refine c8.mono ?_;clear c8;rintro e W6 ⟨⟨ds,rfl,hd⟩,A⟩;have j7:=O (N.o.below A);have l5:Hid (ExL (zL w W) W6 l2 x):=O (ExL.Do HX.o.bound A);have j3:Hid (ExL (zL w W) W6 l3 y):=O (ExL.Do HY.o.bound A);have f6:=O hd.cells;have j6:=O hd;have i7:=O A.size;have d1:=O N.o.lt;clear A hd N HX HY HD h0 o5 o7 F;go_wp2_with (first
   | ((with_reducible refine cp 13 (.alloc 109) ?_);obtain⟨bA,i8⟩:∃b,W6.1.size=b:=⟨_,z⟩;refine ag p7 q7 p9 z z bA i8 ?_;intro W7 k7 A s7;have K7:=O k7;have a2:=O (j7.o.below A);have e5:=O (l5.o.Do A);have e3:=O (j3.o.Do A);have e7:=O (j6.o.below A);have HA:=O (show W.1.size<=bA by have:=i7.o;omega);clear k7 A j7 j6 l5 j3 i8 i7)
   | ((with_reducible refine cp 14 (.alloc 114) ?_);obtain⟨bN,i6⟩:∃b,W7.1.size=b:=⟨_,z⟩;refine ag p5 o8 h0 z z bN i6 ?_;intro W8 k8 A s8;have K8:=O (EQ (K7.o.below A) k8);have g3:=O (a2.o.below A);have g5:=O (e5.o.Do A);have f4:=O (e3.o.Do A);have g2:=O (e7.o.below A);have b7:=O (show bA+1=bN by omega);clear k8 A a2 e7 e5 e3 K7 i6)
   | ((with_reducible refine cY (.store 109 (.tmp 13) _) ?_);refine af aj z (.tmp 13) (.tmp 150) z bA ds _ z z K8.o.1 z f6.o ?_;intro W9 k9 c9;have hA:=HA.o;have g6:=d1.o;have K9:=O (EQ k9 (c9.CV (by have:=b7.o;omega) K8.o.2));have j0:=O (g3.o.ch (by omega) c9);have k1:=O (c9.ex (fun e M=>by have:=M.2;omega) g5.o);have j1:=O (c9.ex (fun e M=>by have:=M.2;omega) f4.o);have i1:=O (c9.df (fun e=>by have:=e.2;omega) g2.o);clear k9 c9 g3 g2 g5 f4 K8 hA g6)
   | ((with_reducible refine cY (.store 114 _ _) ?_);refine af cN z (.tmp 14) (.tmp 151) z bN n.cells _ z z K9.o.2 z (gj n) ?_;intro u4 i3 a3;have hA:=HA.o;have m8:=b7.o;have g6:=d1.o;have d6:=O (EQ (a3.CV (by omega) K9.o.1) i3);have f5:=O (j0.o.ch (by omega) a3);have i2:=O (a3.ex (fun e M=>by have:=M.2;omega) k1.o);have k2:=O (a3.ex (fun e M=>by have:=M.2;omega) j1.o);have l7:=O (a3.df (fun e=>by have:=e.2;omega) i1.o);clear i3 a3 j0 i1 k1 j1 K9 hA m8 g6)
   | ((with_reducible refine cp 152 (.load 109 _) ?_);refine ac d9 d7 aj z (.tmp 13) z bA ds z (O d6.o.1) f6.o.1 ?_)
   | ((with_reducible refine cY (.store 109 (.tmp 2) _) ?_);refine af aj z (.tmp 2) (.tmp 152) z w.1.size ds _ z z f5.o.f a6.o.1 f6.o ?_;intro d0 h7 a4;have h9:=O (a4.CV (by have:=HA.o;have:=b7.o;have:=d1.o;omega) d6.o.2);have Q:=O (f5.o.Dc h7 a4);have m5:=O (a4.Dz (ExL.CQ (fun e M=>M.1) i2.o) (by omega));have m3:=O (a4.Dz (ExL.CQ (fun e M=>M.1) k2.o) (by omega));have l9:=O (bx S (fu l7.o (by have:=HA.o;have:=d6.o.1.lt;omega)) a4 (FL _) (by omega));clear h7 a4 f5 l7 i2 k2 d6;have n1:d0.cell? ⟨bN,1,none⟩=some (I n.kind):=(by rw[h9.o.cell];rfl);have n2:d0.cell? ⟨bN,2,none⟩=some (I n.slot):=(by rw[h9.o.cell];rfl);have F:=O (bR z d4.o.1 d2.o.1 (C:=cO 12 l c s t l2 l3 (.slice a0 body.length j) (.slice a1 els.length n0) id sl ot lo));have b5:d0.cell? ⟨w.1.size+1,22,none⟩=some (I sl):=(by rw[Q.o.s.cell];exact F.o.2.2.2.2.2.2.2.2.1);have q0:d0.cell? ⟨w.1.size+1,23,none⟩=some (I ot):=(by rw[Q.o.s.cell];exact F.o.2.2.2.2.2.2.2.2.2.1);have a8:d0.cell? ⟨w.1.size+1,24,none⟩=some (.bool lo):=(by rw[Q.o.s.cell];exact F.o.2.2.2.2.2.2.2.2.2.2);have a7:=Q.o.s.frozen 22;have r2:=Q.o.s.frozen 23;have b4:=Q.o.s.frozen 24;have u2:=O (show bN≠w.1.size+1 by have:=HA.o;have:=b7.o;have:=d1.o;omega);clear b7 HA s7 s8 F)
   |fail)
  have r7:((n.kind:Int)==100)=decide (n.kind=100):=by rw[Bool.eq_iff_iff];simp;omega
  rw[<-r7]at m2;have f1:=cC (k:=12) (l:=l) (c:=c) (s:=s) (t:=t) (bv:= .slice a0 body.length j) (ev:= .slice a1 els.length n0) (id:=id) (sl:=sl) (ot:=ot) (lo:=lo) d4.o.1 d2.o.1 (.slice none 0 0) ((n.slot:Int)) (false);have g0:=(Q.o).Dw ((Q.o).s.set1 23 (I n.slot)) (Ch.one 23 _ _);rw[f1.2.2.2.2.1]at g0;have f3:=bx S (l9.o) (Ch.one (b:=w.1.size+1) 23 (I n.slot) _) (by omega) (by omega);have f0:=(Ch.one (b:=w.1.size+1) 23 (I n.slot) _).Dz (m5.o) (by omega);have f2:=(Ch.one (b:=w.1.size+1) 23 (I n.slot) _).Dz (m3.o) (by omega)
  have l6:=cC (k:=12) (l:=l) (c:=c) (s:=s) (t:=t) (bv:= .slice a0 body.length j) (ev:= .slice a1 els.length n0) (id:=id) (sl:=sl) (ot:=(n.slot:Int)) (lo:=lo) d4.o.1 d2.o.1 (.slice none 0 0) (0) ((n.kind:Int)==100);have g1:=(g0).Dw ((g0).s.set1 24 (.bool ((n.kind:Int)==100))) (Ch.one 24 _ _);rw[l6.2.2.2.2.2]at g1;have j5:=bx S (f3) (Ch.one (b:=w.1.size+1) 24 (.bool ((n.kind:Int)==100)) _) (by omega) (by omega);have k0:=(Ch.one (b:=w.1.size+1) 24 (.bool ((n.kind:Int)==100)) _).Dz (f0) (by omega);have j9:=(Ch.one (b:=w.1.size+1) 24 (.bool ((n.kind:Int)==100)) _).Dz (f2) (by omega);have g8:=O (g1.below (FB _ _).drew);have g7:=O (eN j5 (FB _ _).drew);have g9:=O (ExL.Do k0 (FB _ _).drew)
  have h4:=O (ExL.Do j9 (FB _ _).drew);clear l6 g1 j5 k0 j9 f1 g0 f3 f0 f2;clear r7;go_region;all_goals
   generalize (Gc _ _ _).drew=Wz at *;go_wp2_with fail;refine m7.o _ _ ?_;exact qb S j2.o g8 g7 g9 h4 HB HE IB IE m2
 by_cases h1:k=1
 .subst h1;obtain⟨D1,m6⟩:∃D1,D.DG (l,c) s=D1:=⟨_,z⟩;obtain⟨J,m4⟩:∃J,D1.DD (l,c)=J:=⟨_,z⟩;have n5:jS D D1:=m6▸lf D (l,c) s;have n8:jS D1 J:=m4▸ (ko D1 (l,c)).1;have Z:D.stM (l,c) 1 s t sl ot lo=(J.Ez s,(J.locals:Int),ot,true):=by unfold DF.stM;rw[aD rfl,m6,m4]
  have j2:Hid (hz (J.Ez s)):=O (by have:=jJ hI hl (l,c) 1 s t sl ot lo;rw[Z]at this;exact this);rw[Z]at HR;have HI:=O (hI.EK (n5.trans n8));have j8:D1.locals=D.locals:=n5.loc;have h3:Hid (J.locals=D.locals):=O (by rw[n8.loc,j8]);obtain⟨oi,o0⟩:∃o,D.at s=o:=⟨_,z⟩;have c8:=jA D s (jp ok w W) cs W HD.o;rw[o0]at c8;have e8:(if oi.isSome=true then D.DA 130 (l,c) else D)=D1:=by rw[<-m6];unfold DF.DG;rw[o0]
  have d3:(if 32<=D.locals then D1.DA 134 (l,c) else D1)=J:=by rw[<-m4,<-j8];rfl
  obtain⟨G,n6⟩:∃n,D.locals=n:=⟨_,z⟩;rw[n6]at j8 h3 d3 hl;have q9:(D.locals:Int)=(G:Int):=by rw[n6]
  have q3:(D1.locals:Int)=(G:Int):=by rw[j8]
  have c3:=(N.o.s.cell 3).trans F.o.2.2.2.1;have t9:=O hl;have HH:=O (EQ q9 q3);clear n5 n8 Z o0 m6 m4 hl hI n6 q9 q3 j8;go_wp2_with (first| ((with_reducible refine gU _ (.load 109 _) ?_);refine ac d9 d7 aj z (.tmp 2) z w.1.size cs z (O N.o.f) a6.o.1 ?_)|fail);refine c8.mono ?_;clear c8;rintro e W1 ⟨rfl,A⟩;have U:=O (N.o.below A);have e4:=O (HX.o.Do A);have e0:=O (HY.o.Do A);have a9:=O (eN HD.o A);clear A N HX HY HD c3;have c15:=(U.o.f.cell 15).trans a9.o.c7.2.1;have b5:=(U.o.s.cell 22).trans F.o.2.2.2.2.2.2.2.2.1;have a8:=(U.o.s.cell 24).trans F.o.2.2.2.2.2.2.2.2.2.2;have a7:=U.o.s.frozen 22;have b4:=U.o.s.frozen 24;have q1:=(U.o.s.cell 1).trans F.o.2.1
  have q2:=(U.o.s.cell 2).trans F.o.2.2.1;rw[HH.o.1]at c15;rcases oi with _|i<;>by_cases m1:32<=G;focus
   rw[am (by simp)]at e8;simp only[qN];rw[e8]at a9;have m9:(32:Int)<=(G:Int):=by omega
   rw[aD m1]at d3;have X:=bP D1 _ 134 (l,c) _ _ a9.o;rw[d3]at X;go_wp2_with (first| (with_reducible refine l1 97 109 ?_;refine ac d9 d7 aj z (.tmp 2) z w.1.size _ z (O U.o.f) a6.o.1 ?_));refine X.mono ?_;clear X;rintro e V1 ⟨⟨uE,rfl,hd⟩,A⟩;have d8:=O hd.cells;have V:=O (U.o.below A);have b8:=O (e4.o.Do A);have b9:=O (e0.o.Do A);have b6:=O (fu hd A.size);clear hd A U e4 e0 a9 c15 b5 a8 a7 b4 q1 q2
   go_wp2_with (first| (with_reducible refine s1 109 2 ?_;refine af aj z (.tmp 2) (.tmp 100) z w.1.size uE _ z z V.o.f a6.o.1 d8.o ?_;intro W2 kk K;have H:=O (V.o.Dc kk K);have e6:=O (K.Dz b8.o (by omega));have e9:=O (K.Dz b9.o (by omega));have a5:=O (bx S b6.o K (FL _) (by omega));clear kk K V b8 b9 b6;have c15:=(H.o.f.cell 15).trans a5.o.c7.2.1;have b5:=(H.o.s.cell 22).trans F.o.2.2.2.2.2.2.2.2.1;have a8:=(H.o.s.cell 24).trans F.o.2.2.2.2.2.2.2.2.2.2;have a7:=H.o.s.frozen 22;have b4:=H.o.s.frozen 24;have q1:=(H.o.s.cell 1).trans F.o.2.1;have q2:=(H.o.s.cell 2).trans F.o.2.2.1;rw[h3.o]at c15));have h5:=H;have l8:=e6;have i5:=e9;have k6:=a5;have n9:=d8;clear H e6 e9 a5
  rotate_left;focus
   rw[am (by simp)]at e8;simp only[qN];rw[e8]at a9;have m9:¬ (32:Int)<=(G:Int):=by omega
   rw[am m1]at d3;rw[d3]at a9;go_wp2_with fail;have h5:=U;have l8:=e4;have i5:=e0;have k6:=a9;have n9:=a6;clear U e4 e0 a9
  rotate_left;focus
   rw[aD (show (some i).isSome=true from rfl)]at e8;simp only[qN];have u0:(0:Int)<=(i:Int):=by omega
   have m9:(32:Int)<=(G:Int):=by omega
   rw[aD m1]at d3;have X:=bP D _ 130 (l,c) _ _ a9.o;rw[e8]at X;go_wp2_with (first| (with_reducible refine l1 90 109 ?_;refine ac d9 d7 aj z (.tmp 2) z w.1.size _ z (O U.o.f) a6.o.1 ?_));refine X.mono ?_;clear X;rintro e V1 ⟨⟨uE,rfl,hd⟩,A⟩;have d8:=O hd.cells;have V:=O (U.o.below A);have b8:=O (e4.o.Do A);have b9:=O (e0.o.Do A);have b6:=O (fu hd A.size);clear hd A U e4 e0 a9 c15 b5 a8 a7 b4 q1 q2
   go_wp2_with (first| (with_reducible refine s1 109 2 ?_;refine af aj z (.tmp 2) (.tmp 93) z w.1.size uE _ z z V.o.f a6.o.1 d8.o ?_;intro W2 kk K;have H:=O (V.o.Dc kk K);have e6:=O (K.Dz b8.o (by omega));have e9:=O (K.Dz b9.o (by omega));have a5:=O (bx S b6.o K (FL _) (by omega));clear kk K V b8 b9 b6;have c15:=(H.o.f.cell 15).trans a5.o.c7.2.1;have b5:=(H.o.s.cell 22).trans F.o.2.2.2.2.2.2.2.2.1;have a8:=(H.o.s.cell 24).trans F.o.2.2.2.2.2.2.2.2.2.2;have a7:=H.o.s.frozen 22;have b4:=H.o.s.frozen 24;have q1:=(H.o.s.cell 1).trans F.o.2.1;have q2:=(H.o.s.cell 2).trans F.o.2.2.1;rw[HH.o.2]at c15)| (with_reducible refine l1 97 109 ?_;refine ac d9 d7 aj z (.tmp 2) z w.1.size _ z (O H.o.f) d8.o.1 ?_))
   have X:=bP D1 _ 134 (l,c) _ _ a5.o;rw[d3]at X;refine X.mono ?_;clear X;rintro e V2 ⟨⟨t5,rfl,hd⟩,A⟩;have p4:=O hd.cells;have V:=O (H.o.below A);have b8:=O (e6.o.Do A);have b9:=O (e9.o.Do A);have b6:=O (fu hd A.size);clear hd A H e6 e9 a5 c15 b5 a8 a7 b4 q1 q2
   go_wp2_with (first| (with_reducible refine s1 109 2 ?_;refine af aj z (.tmp 2) (.tmp 100) z w.1.size t5 _ z z V.o.f d8.o.1 p4.o ?_;intro W3 kk K;have d5:=O (V.o.Dc kk K);have p0:=O (K.Dz b8.o (by omega));have p1:=O (K.Dz b9.o (by omega));have o6:=O (bx S b6.o K (FL _) (by omega));clear kk K V b8 b9 b6;have c15:=(d5.o.f.cell 15).trans o6.o.c7.2.1;have b5:=(d5.o.s.cell 22).trans F.o.2.2.2.2.2.2.2.2.1;have a8:=(d5.o.s.cell 24).trans F.o.2.2.2.2.2.2.2.2.2.2;have a7:=d5.o.s.frozen 22;have b4:=d5.o.s.frozen 24;have q1:=(d5.o.s.cell 1).trans F.o.2.1;have q2:=(d5.o.s.cell 2).trans F.o.2.2.1;rw[h3.o]at c15));have h5:=d5;have l8:=p0;have i5:=p1;have k6:=o6;have n9:=p4;clear d5 p0 p1 o6
  rotate_left;focus
   rw[aD (show (some i).isSome=true from rfl)]at e8;simp only[qN];have u0:(0:Int)<=(i:Int):=by omega
   have m9:¬ (32:Int)<=(G:Int):=by omega
   rw[am m1]at d3;have X:=bP D _ 130 (l,c) _ _ a9.o;rw[e8]at X;go_wp2_with (first| (with_reducible refine l1 90 109 ?_;refine ac d9 d7 aj z (.tmp 2) z w.1.size _ z (O U.o.f) a6.o.1 ?_));refine X.mono ?_;clear X;rintro e V1 ⟨⟨uE,rfl,hd⟩,A⟩;have d8:=O hd.cells;have V:=O (U.o.below A);have b8:=O (e4.o.Do A);have b9:=O (e0.o.Do A);have b6:=O (fu hd A.size);clear hd A U e4 e0 a9 c15 b5 a8 a7 b4 q1 q2
   go_wp2_with (first| (with_reducible refine s1 109 2 ?_;refine af aj z (.tmp 2) (.tmp 93) z w.1.size uE _ z z V.o.f a6.o.1 d8.o ?_;intro W2 kk K;have H:=O (V.o.Dc kk K);have e6:=O (K.Dz b8.o (by omega));have e9:=O (K.Dz b9.o (by omega));have a5:=O (bx S b6.o K (FL _) (by omega));clear kk K V b8 b9 b6;have c15:=(H.o.f.cell 15).trans a5.o.c7.2.1;have b5:=(H.o.s.cell 22).trans F.o.2.2.2.2.2.2.2.2.1;have a8:=(H.o.s.cell 24).trans F.o.2.2.2.2.2.2.2.2.2.2;have a7:=H.o.s.frozen 22;have b4:=H.o.s.frozen 24;have q1:=(H.o.s.cell 1).trans F.o.2.1;have q2:=(H.o.s.cell 2).trans F.o.2.2.1;rw[HH.o.2]at c15));rw[d3]at a5;have h5:=H;have l8:=e6;have i5:=e9;have k6:=a5;have n9:=d8;clear H e6 e9 a5
  rotate_left;all_goals
   clear c15 b5 a8 a7 b4 q1 q2;have f1:=cC (k:=1) (l:=l) (c:=c) (s:=s) (t:=t) (bv:= .slice a0 body.length j) (ev:= .slice a1 els.length n0) (id:=id) (sl:=sl) (ot:=ot) (lo:=lo) d4.o.1 d2.o.1 (.slice none 0 0) ((G:Int)) (false);have g0:=(h5.o).Dw ((h5.o).s.set1 22 (I G)) (Ch.one 22 _ _);rw[f1.2.2.2.1]at g0;have f3:=bx S (k6.o) (Ch.one (b:=w.1.size+1) 22 (I G) _) (by omega) (by omega);have f0:=(Ch.one (b:=w.1.size+1) 22 (I G) _).Dz (l8.o) (by omega);have f2:=(Ch.one (b:=w.1.size+1) 22 (I G) _).Dz (i5.o) (by omega)
   have l6:=cC (k:=1) (l:=l) (c:=c) (s:=s) (t:=t) (bv:= .slice a0 body.length j) (ev:= .slice a1 els.length n0) (id:=id) (sl:=(G:Int)) (ot:=ot) (lo:=lo) d4.o.1 d2.o.1 (.slice none 0 0) (0) (true);have g1:=(g0).Dw ((g0).s.set1 24 (.bool true)) (Ch.one 24 _ _);rw[l6.2.2.2.2.2]at g1;have j5:=bx S (f3) (Ch.one (b:=w.1.size+1) 24 (.bool true) _) (by omega) (by omega);have k0:=(Ch.one (b:=w.1.size+1) 24 (.bool true) _).Dz (f0) (by omega);have j9:=(Ch.one (b:=w.1.size+1) 24 (.bool true) _).Dz (f2) (by omega);have g8:=O g1;have g7:=O j5;have g9:=O k0;have h4:=O j9;clear l6 g1 j5 k0 j9 f1 g0 f3 f0 f2;clear h5 l8 i5 k6;generalize (Gc (Gc _ _ _) _ _)=W5 at *
   have u7:prog.follows .mixedOrders=true:=by kernel_rfl
   obtain⟨Y,hV⟩:=eX W5.drew;have hq:∃j4,lp w j4 (cO 1 l c s t l2 l3 (.slice a0 body.length j) (.slice a1 els.length n0) id (G:Int) ot true) Y/\aG (jp ok w Y) Y J j4:=⟨_,by rw[<-hV];exact g8.o.below (FB _ W5).drew,by rw[<-hV];exact eN g7.o (FB _ W5).drew⟩;let ⟨j4,p6,m0⟩:=hq
   have f8:=O p6;have p2:=O m0;have t2:Hid (ExL (w.1.size+4<=·) Y l2 x):=O (by rw[<-hV];exact ExL.Do g9.o (FB _ W5).drew);have r6:Hid (ExL (w.1.size+4<=·) Y l3 y):=O (by rw[<-hV];exact ExL.Do h4.o (FB _ W5).drew);have t7:=O (bR z d4.o.1 d2.o.1 (C:=cO 1 l c s t l2 l3 (.slice a0 body.length j) (.slice a1 els.length n0) id (G:Int) ot true));obtain⟨-,n7,o9,vn,s6,q8⟩:=m0.c7;rw[h3.o]at n7;have HC:=O (EQ n7 (EQ o9 s6));have t3:=O q8;have q4:=m0.cells;have t8:=O q4;let ⟨i0,z0,u9,v3,t4,t6,u5⟩:=bJ sj
   have u1:prog.underlying 107=some (.slice 114):=by kernel_rfl
   clear p6 m0 n7 o9 s6 q8 g8 g7 g9 h4 q4;refine al [11] (fun W=>FM Y.1.size Y W) u7 ?_;rw[hV];clear hV;have f9:Hid (FM Y.1.size Y Y):=O (FB _ Y);refine fa 0 ?_;refine fK (fun W1=>W1.cell? ⟨w.1.size,13,none⟩=some vn) 1 (fun W1 h6=>by rw[(f8.o.f.below h6).cell];exact HC.o.2.2) ?_;refine fa 3 ?_;refine fK (fun W1=>W1.cell? ⟨w.1.size+1,3,none⟩=some (.string s)) 4 (fun W1 h6=>by rw[(f8.o.s.below h6).cell];exact t7.o.2.2.2.1) ?_;refine nm ?_;refine fa 5 ?_;refine fK (fun W1=>W1.cell? ⟨w.1.size,15,none⟩=some (.int .i64 (G:Int))) 6 (fun W1 h6=>by rw[(f8.o.f.below h6).cell];exact HC.o.1) ?_;refine fa 7 ?_;refine nm ?_
   refine dS (E:=ma) 2 8 9 107 113 114 107 (.const (.slice none 0 0)) (.tmp 106) (.tmp 112) z z z ⟨z,z,z⟩ ⟨z,z,z⟩ (by kernel_rfl) (by kernel_rfl) (by kernel_rfl) (by kernel_rfl) (by decide) z z z (by kernel_rfl) (by decide) ⟨106,z,by decide⟩ ⟨112,z,by decide⟩ (fun _=>z) u1 u9 v3 t4 t6 (by decide) (by decide) u5 z t3.o (fun _ _ _ _ _ h=>h) (by have:=HI.o.names;have:=HI.o.loc;omega) _ (Nm.mk s 100 G).cells ⟨s,100,G⟩ z z (fun _ _=>z) (fun _ h=>h) (fun v8 v2 g cap W6 r3 p3=>?_);have q6:=O r3;have f7:=O p3;clear r3 p3;refine nm ?_;refine fa 10 ?_;refine nm ?_;refine oD 11 fun u3 hK=>?_
   refine aA (by kernel_rfl) (.tmp 115) (.tmp 114) z w.1.size 13 109 (.slice (some (ad g 0)) (J.names.length+1) cap) j4 z z z z (f8.o.f.below f7.o) (by rw[t8.o.1];decide) ?_;intro W7 k7 c7;have K7:=O (EQ k7 c7);clear k7 c7;refine hK _ _ nofun ?_;clear hK u3;simp only[Gf];refine dn ?_;have t1:aG (jp ok w W6) W6 {J with names:=J.names++[⟨s,100,G⟩]} (j4.set 13 (.slice (some (ad g 0)) (J.names.length+1) cap)):=aG.tight (ok:=fun c=>ok c∨w.1.size+4<=c) (aG.Eg (aG.CQ (fun c hc=>hc.1) (p2.o.below f7.o)) (Ro.CQ (fun c hc=> .inr (by have h1:Y.1.size<=c:=hc;have:=f8.o.lt;omega)) (Ro.of q6.o)));have a2:=O ((f8.o.below f7.o).Dc K7.o.1 K7.o.2);have e7:=O (bx S t1 K7.o.2 (FL _) (by omega))
   have e5:=O (K7.o.2.Dz (ExL.Do t2.o f7.o) (by omega));have e3:=O (K7.o.2.Dz (ExL.Do r6.o f7.o) (by omega));clear t1 K7 q6 f7 f8 p2 t2 r6;have u6:W7.cell? (ad w.1.size 15)=some (I G):=by rw[a2.o.f.cell,Ge (by decide)];exact HC.o.1
   have v4:W7.cell? (ad w.1.size 16)=some (I J.CY):=by rw[a2.o.f.cell,Ge (by decide)];exact HC.o.2.1
   have u8:=a2.o.f.frozen 15;have v5:=a2.o.f.frozen 16;have w0:(G:Int)<33:=by have:=t9.o;omega
   go_wp2_with fail;clear u6 v4 u8 v5;have h1:=a2.o.Dc (a2.o.f.set1 15 (I ((G:Int)+1))) (Ch.one 15 _ W7);have h2:=h1.Dc (h1.f.set1 16 (I (max (J.CY:Int) ((G:Int)+1)))) (Ch.one 16 _ _);have e1:((max J.CY (G+1):Nat):Int)=max (J.CY:Int) ((G:Int)+1):=by omega
   have hd:=(e7.o.EG (G+1)).EI (max J.CY (G+1));rw[e1,show ((G+1:Nat):Int)=(G:Int)+1 from rfl]at hd;have e2:({({({J with names:=J.names++[⟨s,100,G⟩]}:DF) with locals:=G+1}:DF) with CY:=max J.CY (G+1)}:DF)=J.Ez s:=by unfold DF.Ez;rw[h3.o]
   rw[e2]at hd;have q5:=bx S (bx S hd (Ch.one (b:=w.1.size) 15 (I ((G:Int)+1)) W7) (FL _) (by omega)) (Ch.one (b:=w.1.size) 16 (I (max (J.CY:Int) ((G:Int)+1))) _) (FL _) (by omega);have hx:=(Ch.one (b:=w.1.size) 16 (I (max (J.CY:Int) ((G:Int)+1))) _).Dz ((Ch.one (b:=w.1.size) 15 (I ((G:Int)+1)) W7).Dz e5.o (by omega)) (by omega);have hy:=(Ch.one (b:=w.1.size) 16 (I (max (J.CY:Int) ((G:Int)+1))) _).Dz ((Ch.one (b:=w.1.size) 15 (I ((G:Int)+1)) W7).Dz e3.o (by omega)) (by omega);rw[h3.o]at HR;have g3:=O h2;have g2:=O q5;have g5:=O hx;have f4:=O hy;clear h1 h2 hd q5 hx hy e1 e2 a2 e7 e5 e3;generalize Gc (Gc _ _ _) _ _=W8 at *;refine m7.o _ _ ?_;exact qb S j2.o g3 g2 g5 f4 HB HE IB IE HR
 .have Z:D.stM (l,c) k s t sl ot lo=(D,sl,ot,lo):=by unfold DF.stM;rw[am h1,am h8,am p8]
  rw[Z]at HR;clear Z F;go_wp2_with fail;refine m7.o _ _ ?_;exact qb S hI N HD HX HY HB HE IB IE HR
theorem dc{E:Array Oper}{D:List Oper}{o:Oper}{a:Act}{C:Exit->Act->Fk->Prop}{T F:TypeId}(M:(prog.info? T).map (·.size)=some n)(G:o.guard=none)(x y:Operand)(J:o.op= .store T x y)
  (b k:Nat)(vs:List Fr){pre mid post:List Fr}(N:a.eval x= .pointer (some (ad b k)))(K:a.eval y= .agg vs.toArray)(A:ak w b F (pre++(mid++post)))(H:pre.length=k)(j:mid.length=n)(g:vs.length=n/\∀v∈vs,v.oneCell'=true)(h:∀W,ak W b F (pre++(vs++post))->Ch b w W->wpList prog E C D (a.put o.dst undef) W):wpList prog E C (o::D) a w:=by
 subst H;exact wpList_store_mid G T x y J b pre.length vs.toArray N K (A.there (by simp[j,g.1])) (by rw[M];simp[g.1]) (all_oneCell_toArray g.2) (by simpa using h _ (A.put (by rw[g.1,j])) ⟨pre.length,vs,z⟩)
section
variable {k l c:Int} {s t:ByteArray} {xc yc:List Fr} {bv ev:Fr} {id sl ot:Int} {lo:Bool}
theorem jg:cO k l c s t xc yc bv ev id sl ot lo=[I k,I l,I c,.string s,.string t]++(xc++(yc++[bv,ev,I id,I sl,I ot,.bool lo])):=rfl
theorem jj:cO k l c s t xc yc bv ev id sl ot lo=(I k::I l::I c:: .string s:: .string t::xc)++(yc++[bv,ev,I id,I sl,I ot,.bool lo]):=by simp[cO]
end
theorem Ap{ok:Nat->Prop}{cs:List Fr}{k l c:Int}{x y:Ex}{body els:List St}{id sl ot:Int}{lo:Bool}(U:∀c,ok c->c<w.1.size)(hI:hz D)(hl:D.locals<=32)
  (H:Hid (lp w cs (cO k l c s t l2 l3 (.slice a0 body.length j) (.slice a1 els.length g) id sl ot lo) W))(HD:Hid (aG (jp ok w W) W D cs))(HX:Hid (ExL (w.1.size+4<=·) W l2 x))(HY:Hid (ExL (w.1.size+4<=·) W l3 y))
  (HB:Hid (aF body.length j/\aE (fun _=>True) w a0 0 body))(HE:Hid (aF els.length g/\aE (fun _=>True) w a1 0 els))(IB:Hid (qR body))(IE:Hid (qR els)){R:DF×St}
  (Q:Hid (R=((DF.CV els (DF.CV body (D.DR (l,c) k s t sl ot lo).1).1).1,.mk k l c s t x y (DF.CV body (D.DR (l,c) k s t sl ot lo).1).2 (DF.CV els (DF.CV body (D.DR (l,c) k s t sl ot lo).1).1).2 id (D.DR (l,c) k s t sl ot lo).2.1 (D.DR (l,c) k s t sl ot lo).2.2.1 (D.DR (l,c) k s t sl ot lo).2.2.2)))(hU:l4.length=169:=by rfl):
  FR prog (Jp 8 (f81.body.getD .skip)) (Gb prog f81 (zF ok w R)) ⟨(v0::v1::Pt w.1.size::Pt (w.1.size+1)::Pt (w.1.size+1+1)::Pt (w.1.size+1+1+1)::I k::I ((eu k).1:Int)::I ((eu k).2:Int)::l4).toArray,[]⟩ W:=by
 revert l4;apply aN;iterate 169 intro _
 change FR _ _ _ _ _;obtain⟨du,d5,e7⟩:=cd;obtain⟨j0,i7,i8⟩:=hY;obtain⟨i9,z9,h4,h0,h1⟩:=em;obtain⟨i4,z4,g9,i2,a8⟩:=jI;have a4:=O HX.o.cells;have a6:=O HY.o.cells;have d2:=O HD.o.cells;have F:=O (bR z a4.o.1 a6.o.1 (C:=cO k l c s t l2 l3 (.slice a0 body.length j) (.slice a1 els.length g) id sl ot lo));rw[oM]at Q;obtain⟨⟨a,b⟩,Y⟩:∃q,eu k=q:=⟨_,z⟩;rw[Y];conv in (Jp _ _)=>whnf
 refine wk fun KK d9=>?_;by_cases ha:a=0
 .subst ha;have Z:D.stW (l,c) k s sl lo=(D,sl,lo):=by unfold DF.stW;rw[Y];rfl
  rw[Z]at Q;clear Z Y F;go_wp2_with fail;refine d9.o _ _ ?_;exact xz U hI hl H HD HX HY HB HE IB IE Q
 .skip;have a8:W.cell? ⟨w.1.size+1,3,none⟩=some (.string s):=by rw[H.o.s.cell];exact F.o.2.2.2.1
  have h8:W.cell? ⟨w.1.size+1,1,none⟩=some (I l):=by rw[H.o.s.cell];exact F.o.2.1
  have h9:W.cell? ⟨w.1.size+1,2,none⟩=some (I c):=by rw[H.o.s.cell];exact F.o.2.2.1
  obtain⟨⟨D3,n⟩,a9⟩:∃q,D.CZ s a b (l,c)=q:=⟨_,z⟩;have b4:=eV D s a b (l,c) (jp ok w W) cs W (fun c hc=>hc.2) HD.o;rw[a9]at b4;have Z:D.stW (l,c) k s sl lo=(D3,(n.slot:Int),decide (n.kind=100)):=by unfold DF.stW;rw[Y];rw[aD (show a≠0 from ha),a9]
  have a3:=mx D (l,c) k s sl lo;rw[Z]at a3 Q;have f4:Hid (hz D3/\D3.locals<=32):=O ⟨hI.EK a3,by rw[a3.loc];exact hl⟩;have e1:=Q;have j2:¬ (a:Int)=0:=by omega
  clear Q Z a3 Y hI hl;clear a9;go_wp2_with (first| ((with_reducible refine gU _ (.load 109 _) ?_);refine ac d5 e7 aj z (.tmp 2) z w.1.size cs z (O H.o.f) d2.o.1 ?_)|fail);refine b4.mono ?_;clear b4;rintro e W6 ⟨⟨ds,rfl,hd⟩,A⟩;have d7:=O (H.o.below A);have e0:Hid (ExL (zL w W) W6 l2 x):=O (ExL.Do HX.o.bound A);have f9:Hid (ExL (zL w W) W6 l3 y):=O (ExL.Do HY.o.bound A);have b5:=O hd.cells;have f8:=O hd;have e4:=O A.size;have a2:=O H.o.lt;clear A hd H HX HY HD a8 h8 h9 F;go_wp2_with (first
   | ((with_reducible refine cp 9 (.alloc 109) ?_);obtain⟨bA,d4⟩:∃b,W6.1.size=b:=⟨_,z⟩;refine ag h4 h0 h1 z z bA d4 ?_;intro W7 k7 A s7;have K7:=O k7;have f5:=O (d7.o.below A);have b8:=O (e0.o.Do A);have d3:=O (f9.o.Do A);have f3:=O (f8.o.below A);have K:=O (show W.1.size<=bA by have:=e4.o;omega);clear k7 A d7 f8 e0 f9 d4 e4)
   | ((with_reducible refine cp 10 (.alloc 114) ?_);obtain⟨S,g2⟩:∃b,W7.1.size=b:=⟨_,z⟩;refine ag g9 i2 a8 z z S g2 ?_;intro W8 k8 A s8;have K8:=O (EQ (K7.o.below A) k8);have e3:=O (f5.o.below A);have b7:=O (b8.o.Do A);have g4:=O (d3.o.Do A);have f2:=O (f3.o.below A);have X:=O (show bA+1=S by omega);clear k8 A f5 f3 b8 d3 K7 g2)
   | ((with_reducible refine cY (.store 109 (.tmp 9) _) ?_);refine af aj z (.tmp 9) (.tmp 72) z bA ds _ z z K8.o.1 z b5.o ?_;intro W9 k9 M;have hA:=K.o;have b6:=a2.o;have K9:=O (EQ k9 (M.CV (by have:=X.o;omega) K8.o.2));have g5:=O (e3.o.ch (by omega) M);have d0:=O (M.ex (fun e E=>by have:=E.2;omega) b7.o);have e2:=O (M.ex (fun e E=>by have:=E.2;omega) g4.o);have e5:=O (M.df (fun e=>by have:=e.2;omega) f2.o);clear k9 M e3 f2 b7 g4 K8 hA b6)
   | ((with_reducible refine cY (.store 114 _ _) ?_);refine af cN z (.tmp 10) (.tmp 73) z S n.cells _ z z K9.o.2 z (gj n) ?_;intro j4 c8 N;have hA:=K.o;have h3:=X.o;have b6:=a2.o;have a5:=O (EQ (N.CV (by omega) K9.o.1) c8);have a7:=O (g5.o.ch (by omega) N);have f0:=O (N.ex (fun e E=>by have:=E.2;omega) d0.o);have e9:=O (N.ex (fun e E=>by have:=E.2;omega) e2.o);have d8:=O (N.df (fun e=>by have:=e.2;omega) e5.o);clear c8 N g5 e5 d0 e2 K9 hA h3 b6)
   | ((with_reducible refine cp 74 (.load 109 _) ?_);refine ac d5 e7 aj z (.tmp 9) z bA ds z (O a5.o.1) b5.o.1 ?_)
   | ((with_reducible refine cY (.store 109 (.tmp 2) _) ?_);refine af aj z (.tmp 2) (.tmp 74) z w.1.size ds _ z z a7.o.f d2.o.1 b5.o ?_;intro V g6 J;have f6:=O (J.CV (by have:=K.o;have:=X.o;have:=a2.o;omega) a5.o.2);have G:=O (a7.o.Dc g6 J);have h6:=O (J.Dz (ExL.CQ (fun e E=>E.1) f0.o) (by omega));have i0:=O (J.Dz (ExL.CQ (fun e E=>E.1) e9.o) (by omega));have g8:=O (bx U (fu d8.o (by have:=K.o;have:=a5.o.1.lt;omega)) J (FL _) (by omega));clear g6 J a7 d8 f0 e9 a5;have n1:V.cell? ⟨S,1,none⟩=some (I n.kind):=(by rw[f6.o.cell];rfl);have n2:V.cell? ⟨S,2,none⟩=some (I n.slot):=(by rw[f6.o.cell];rfl);have F:=O (bR z a4.o.1 a6.o.1 (C:=cO k l c s t l2 l3 (.slice a0 body.length j) (.slice a1 els.length g) id sl ot lo));have j5:V.cell? ⟨w.1.size+1,22,none⟩=some (I sl):=(by rw[G.o.s.cell];exact F.o.2.2.2.2.2.2.2.2.1);have j1:V.cell? ⟨w.1.size+1,23,none⟩=some (I ot):=(by rw[G.o.s.cell];exact F.o.2.2.2.2.2.2.2.2.2.1);have i5:V.cell? ⟨w.1.size+1,24,none⟩=some (.bool lo):=(by rw[G.o.s.cell];exact F.o.2.2.2.2.2.2.2.2.2.2);have j3:=G.o.s.frozen 22;have i6:=G.o.s.frozen 23;have j6:=G.o.s.frozen 24;have i3:=O (show S≠w.1.size+1 by have:=K.o;have:=X.o;have:=a2.o;omega);clear X K s7 s8 F)
   |fail)
  have d1:((n.kind:Int)==100)=decide (n.kind=100):=by rw[Bool.eq_iff_iff];simp;omega
  rw[<-d1]at e1;have g7:=cC (k:=k) (l:=l) (c:=c) (s:=s) (t:=t) (bv:= .slice a0 body.length j) (ev:= .slice a1 els.length g) (id:=id) (sl:=sl) (ot:=ot) (lo:=lo) a4.o.1 a6.o.1 (.slice none 0 0) ((n.slot:Int)) (false);have g0:=(G.o).Dw ((G.o).s.set1 22 (I n.slot)) (Ch.one 22 _ _);rw[g7.2.2.2.1]at g0;have e6:=bx U (g8) (Ch.one (b:=w.1.size+1) 22 (I n.slot) _) (by omega) (by omega);have f1:=(Ch.one (b:=w.1.size+1) 22 (I n.slot) _).Dz (h6) (by omega);have d6:=(Ch.one (b:=w.1.size+1) 22 (I n.slot) _).Dz (i0) (by omega)
  have e8:=cC (k:=k) (l:=l) (c:=c) (s:=s) (t:=t) (bv:= .slice a0 body.length j) (ev:= .slice a1 els.length g) (id:=id) (sl:=(n.slot:Int)) (ot:=ot) (lo:=lo) a4.1 a6.1 (.slice none 0 0) (0) ((n.kind:Int)==100);have g1:=(g0).Dw ((g0).s.set1 24 (.bool ((n.kind:Int)==100))) (Ch.one 24 _ _);rw[e8.2.2.2.2.2]at g1;have f7:=bx U (e6) (Ch.one (b:=w.1.size+1) 24 (.bool ((n.kind:Int)==100)) _) (by omega) (by omega);have b9:=(Ch.one (b:=w.1.size+1) 24 (.bool ((n.kind:Int)==100)) _).Dz (f1) (by omega);have g3:=(Ch.one (b:=w.1.size+1) 24 (.bool ((n.kind:Int)==100)) _).Dz (d6) (by omega);have h7:=O (g1.below (FB _ _).drew);have i1:=O (eN f7 (FB _ _).drew);have h5:=O (ExL.Do b9 (FB _ _).drew)
  have h2:=O (ExL.Do g3 (FB _ _).drew);clear e8 g1 f7 b9 g3 g7 g0 e6 f1 d6;clear d1;go_region;all_goals
   generalize (Gc _ _ _).drew=Wz at *;go_wp2;apply d9;exact xz U f4.1 f4.2 h7 i1 h5 h2 HB HE IB IE e1
theorem tc(k l c:Int)(s t:ByteArray)(x y:Ex)(body els:List St)(id sl ot:Int)(lo:Bool)(hx:x.sm)(hy:y.sm)(i5:qR body)(f3:qR els)(ok:Nat->Prop)(D:DF)(cs H:List Fr)(w:Fk)(M:∀c,ok c->c<w.1.size)(hD:aG ok w D cs)(hI:hz D)(h0:D.CR=0)(hS:bX (fun _=>True) w H (.mk k l c s t x y body els id sl ot lo)):
  Jq prog 81 #[.agg cs.toArray,.agg H.toArray] w (zF ok w (DF.st (.mk k l c s t x y body els id sl ot lo) D)):=by
 let ⟨du,b8,d0⟩:=cd
 let ⟨f2,h4,g8⟩:=en
 let ⟨k9,e7,h8⟩:=hj
 let ⟨i9,z9,j9,j4,j7⟩:=em
 let ⟨i6,z6,j5,j1,a8⟩:=ki
 unfold bX at hS;let ⟨S,yc,ab,ae,d2,d4,g4,d5,e6,i7,F,f1,Q⟩:=hS
 have N:=O d5.cells;have a1:=O e6.cells;have HX:=O d5;have HY:=O e6;have HB:=O (EQ i7 F);have HE:=O (EQ f1 Q);have IB:=O i5;have IE:=O f3;have f8:=O (EQ hx hy);have c9:Hid (H=cO k l c s t S yc (.slice ab body.length d2) (.slice ae els.length d4) id sl ot lo):=O g4;have b9:Hid (H.length=25/\∀v∈H,v.oneCell'=true):=O (by rw[c9.o];exact hk N a1);have g3:=hD.c7.1;have j2:=O hD.cells;have HD:=O hD;have HI:=O hI;have l7:=O (hI.ok h0).1;obtain⟨R,E⟩:=eX (DF.st (.mk k l c s t x y body els id sl ot lo) D);rw[E];rw[DF.st]at E;have HR:=O E;have j6:=O g3;clear E g4 d5 e6 i7 F f1 Q i5 f3 hx hy hD hI h0 g3;go_enter func81,ntmps81;refine wk fun G g=>?_;go_wp2_with (first
  | ((with_reducible refine cp 2 (.box 109 _) ?_);refine aJ z (.tmp 0) z cs z w.1.size z ?_;intro W1 k1 b1 f0;have K1:=O k1;have B1:=O b1;clear k1 b1)
  | ((with_reducible refine cp 3 (.box 60 _) ?_);refine aJ z (.tmp 1) z H z (w.1.size+1) f0 ?_;intro W2 k2 b2 s2;have K2:=O k2;have B2:=O b2;clear k2 b2)
  | ((with_reducible refine cp 4 (.alloc 109) ?_);refine ag j9 j4 j7 z z (w.1.size+1+1) s2 ?_;intro W3 k3 b3 s3;have K3:=O k3;have B3:=O b3;clear k3 b3)
  | ((with_reducible refine cp 5 (.alloc 60) ?_);refine ag j5 j1 a8 z z (w.1.size+1+1+1) s3 ?_;intro Y k4 b4 s4;have K4:=O k4;have B4:=O b4;clear k4 b4)
 )
 apply g;clear g G;have e5:=B1.trans (B2.mono B1.size);have e2:=e5.trans (B3.mono e5.size);have d3:=e2.trans (B4.mono e2.size);have U:Hid (lp w cs H Y):=O ⟨d3,((K1.below B2).below B3).below B4,(K2.below B3).below B4,K3.below B4,K4⟩;have d1:Hid (aG (jp ok w Y) Y D cs):=O ((HD.below d3).CQ fun c K=>⟨.inl K,FJ (M c K) d3.size⟩);clear B1 B2 B3 B4 K1 K2 K3 K4 e5 e2 d3 f0 s2 s3 s4 HD;have c7:=(U.f.cell 7).trans j6;refine wk fun G g=>?_;by_cases h5:512<=D.P.stmts
 .have k6:(512:Int)<=(D.P.stmts:Int):=by omega
  have E:=HR.o;rw[aD h5]at E;have d8:=O E.symm;clear HR E h5;go_wp2;have l9:prog.follows .mixedOrders=true:=by kernel_rfl
  obtain⟨m1,hV⟩:=eX Y.drew;have b7:Hid (lp w cs H m1):=O (by rw[<-hV];exact U.below (FB _ Y).drew);have i3:Hid (aG (jp ok w m1) m1 D cs):=O (by rw[<-hV];exact eN d1 (FB _ Y).drew);clear U d1 c7;apply al [6] (fun W=>ak W w.1.size 109 cs/\ak W (w.1.size+1) 60 H) l9;rw[hV];clear hV;have b6:Hid (ak m1 w.1.size 109 cs/\ak m1 (w.1.size+1) 60 H):=O ⟨b7.f,b7.s⟩;have A:=O (bR c9 N.1 a1.1);refine tl 0 19 b6 109 2 w.1.size 0 cs du (fun W hS=>hS.1.whole) b8 d0 (by rw[j2.o.1];exact aj) ?_;refine fa 1 ?_;refine fK _ 2 (fun W1 h9=>EQ ((h9.2.cell 1).trans A.o.2.1) ((h9.2.cell 2).trans A.o.2.2.1)) ?_;refine tl 4 23 b6 60 3 (w.1.size+1) 0 H k9 (fun W hS=>hS.2.whole) e7 h8 (by rw[b9.o.1];exact ar) ?_
  refine nm ?_;refine oD 3 fun a9 X=>?_;go_simp;apply (bP D _ 134 (l,c) cs m1 i3).mono;rintro e V2 ⟨⟨es,rfl,hd⟩,F⟩;have a2:=O (b7.below F);have j3:=O (fu hd F.size);have f6:=O hd.cells;apply X _ _ (fun _=>⟨a2.f,a2.s⟩);clear X a9 hd F b7 i3;refine oD 5 fun a9 X=>?_;refine an aj (.tmp 4) (.tmp 22) z (w.1.size+1+1) es _ z z a2.z z f6 ?_;intro W7 k7 c7;have K7:=O (EQ k7 c7);clear k7 c7;apply X _ _ (fun _=>⟨K7.2.CV (by omega) a2.f,K7.2.CV (by omega) a2.s⟩);clear X a9;refine oD 6 fun a9 X=>?_;refine an ar (.tmp 5) (.tmp 23) z (w.1.size+1+1+1) H _ z z (K7.2.CV (by omega) a2.y) z b9 ?_;intro W8 k8 c8;have K8:=O (EQ k8 c8);clear k8 c8;apply X _ _ nofun;clear X a9;simp only[Gf];refine dn ?_
  have f4:zF ok w R (.returned (.tuple #[.agg es.toArray,.agg H.toArray])) W8:=by
   rw[d8.o];refine⟨⟨es,H,z,(K8.2.df (fun e=>?_) (K7.2.df (fun e=>?_) j3)).CQ fun c K=>?_,b9,fun h=>?_⟩,K8.2.below (by omega) (K7.2.below (by omega) a2.b)⟩
   .rcases e.1 with e|e
    .have:=M _ e;omega
    .omega
   .rcases e.1 with e|e
    .have:=M _ e;omega
    .omega
   .rcases K.1 with h|h
    .exact .inl h
    .exact .inr (by omega)
   .exfalso;have h0:(D.DA 134 (l,c)).CR=0:=h;have:=dD (D:=D) (e:=134) (p:=(l,c));by_cases e:D.CR=0
    .have h2:=(this e (by decide)).2.1;rw[h0]at h2;cases h2
    .rw[eS e]at h0;exact e h0
  have f5:=K8.2.CV (show w.1.size+1+1≠w.1.size+1+1+1 by omega) K7.1;have HF:=O (EQ f5 f4);clear f4 f5;go_wp2;exact ge b8 d0 aj e7 h8 ar HF.1 f6.1 K8.1 b9.1 z z z z HF.2
 .have k6:¬ (512:Int)<=(D.P.stmts:Int):=by omega
  have E:=HR.o;rw[am h5]at E;have d8:=O E.symm;have j8:=O (pM HI h5);clear HR E h5;go_wp2;apply g;clear g G;have A:=O (bR c9 N.1 a1.1);have i8:=(U.s.cell 21).trans A.2.2.2.2.2.2.2.1;have l8:=U.s.frozen 21;have f7:=U.f.frozen 7;have m0:(D.P.stmts:Int)<512:=by omega
  refine wk fun G g=>?_;go_wp2;apply g;clear g G;refine wk fun G g=>?_;go_wp2;apply g;clear g G c7 i8 l8 f7 A;have g1:=U.Dw (U.s.set1 21 (I D.P.stmts)) (Ch.one 21 _ Y);rw[c9.o,(cC N.o.1 a1.o.1 (.slice none 0 0) (D.P.stmts:Int) false).2.2.1]at g1;have h6:=bx M d1 (Ch.one (b:=w.1.size+1) 21 (I D.P.stmts) Y) (by omega) (by omega);have g2:=g1.Dc (g1.f.set1 7 (I ((D.P.stmts:Int)+1))) (Ch.one 7 _ _);have g6:=aG.inc (bx M h6 (Ch.one (b:=w.1.size) 7 (I ((D.P.stmts:Int)+1)) _) (FL _) (by omega));have Z:=O g2;have e3:=O g6;clear g1 h6 g2 g6 U d1;generalize Gc (Gc _ _ _) _ _=W5 at *;generalize cs.set 7 _=g7 at *;have e8:=O e3.cells;obtain⟨⟨D5,l6⟩,e0⟩:∃q,DF.ex (l,c) y D.inc=q:=⟨_,z⟩
  have d6:=mF (l,c) y f8.2 (jp ok w W5) D.inc g7 yc W5 (fun c K=>K.2) e3 (ExL.sub HY Z.b);rw[e0]at d6;have i2:=O e0;clear e0;have A:=O (bR z N.1 a1.1 (C:=cO k l c s t S yc (.slice ab body.length d2) (.slice ae els.length d4) (D.P.stmts:Int) sl ot lo));have q1:=(Z.s.cell 1).trans A.2.1;have q2:=(Z.s.cell 2).trans A.2.2.1;have b5:W5.rangeAt (w.1.size+1) 12 yc:=by have h:=Z.s;rw[jj]at h;have h2:=ak.range h z;rw[show (Gr .i64 k::I l::I c:: .string s:: .string t::S).length=12 by simp[N.o.1]]at h2;exact h2
  have a4:=O b5;clear b5;refine wk fun G g=>?_;go_wp2_with (first
   | ((with_reducible refine gU _ (.load 109 _) ?_);refine ac b8 d0 aj z (.tmp 2) z w.1.size g7 z (O Z.f) e8.1 ?_)
   | ((with_reducible refine gU _ (.load 58 _) ?_);refine Gn z 58 (.tmp 36) z (w.1.size+1) 12 z yc f2 a4 h4 g8 (by rw[a1.o.1];exact be) ?_)
  )
  refine d6.mono ?_;clear d6;rintro e V5 ⟨⟨Ai,ys,rfl,hd,Q⟩,F⟩;have HT:=O (Z.below F);have a3:=O (fu hd F.size);have e4:=O hd.cells;have e9:Hid (ExL (w.1.size+4<=·) V5 ys l6):=O (ExL.CQ (fun c K=>by have h1:W5.1.size<=c:=K;have:=Z.lt;show w.1.size+4<=c;omega) Q);have d9:=O Q.cells;clear hd Q F q1 q2 a4 A Z e3;go_wp2_with (first
   | ((with_reducible refine cY (.store 109 (.tmp 2) _) ?_);refine af aj z (.tmp 2) (.tmp 41) z w.1.size Ai _ z z HT.o.f e8.o.1 e4.o ?_;intro U5 J j;have a0:=O (HT.o.Dc J j);have a6:=O (bx M a3.o j (FL _) (by omega));have a7:=O (j.Dz e9.o (by omega));have a5:=O (show ak U5 (w.1.size+1) 60 ((I k::I l::I c:: .string s:: .string t::S)++(yc++_)) by rw[<-jj];exact a0.o.s);clear J j HT a3 e9)
   | ((with_reducible refine cY (.store 58 _ _) ?_);refine dc be z (.tmp 43) (.tmp 42) z (w.1.size+1) 12 ys z z a5 (by simp[N.o.1]) a1.1 d9 ?_;intro T5 J j;rw[<-jj]at J;have V:=O (a0.Dw J j);have h7:=O (bx M a6 j (by omega) (by omega));have h3:=O (j.Dz a7 (by omega));clear J j a0 a6 a7 a5)
  )
  apply g;clear g G;obtain⟨⟨D6,l2⟩,e1⟩:∃q,DF.ex (l,c) x D5=q:=⟨_,z⟩;have a8:=mF (l,c) x f8.1 (jp ok w T5) D5 Ai S T5 (fun c K=>K.2) h7 (ExL.sub HX V.b);rw[e1]at a8;have i4:=O e1;clear e1;have A:=O (bR z N.1 d9.1 (C:=cO k l c s t S ys (.slice ab body.length d2) (.slice ae els.length d4) (D.P.stmts:Int) sl ot lo));have q1:=(V.s.cell 1).trans A.2.1;have q2:=(V.s.cell 2).trans A.2.2.1;have b5:T5.rangeAt (w.1.size+1) 5 S:=by have h:=V.s;rw[jg]at h;have h2:=ak.range h z;exact h2
  have a4:=O b5;clear b5;refine wk fun G g=>?_;go_wp2_with (first
   | ((with_reducible refine gU _ (.load 109 _) ?_);refine ac b8 d0 aj z (.tmp 2) z w.1.size Ai z (O V.f) e4.o.1 ?_)
   | ((with_reducible refine gU _ (.load 58 _) ?_);refine Gn z 58 (.tmp 46) z (w.1.size+1) 5 z S f2 a4 h4 g8 (by rw[N.o.1];exact be) ?_)
  )
  apply a8.mono;clear a8;rintro e V6 ⟨⟨BL,xs,rfl,hd,Q⟩,F⟩;have HT:=O (V.below F);have a3:=O (fu hd F.size);have j0:=O hd.cells;have i0:Hid (ExL (w.1.size+4<=·) V6 xs l2):=O (ExL.CQ (fun c K=>by have h1:T5.1.size<=c:=K;have:=V.lt;show w.1.size+4<=c;omega) Q);have i1:=O (h3.Do F);have g5:=O Q.cells;clear hd Q F q1 q2 a4 A V h7 h3;go_wp2_with (first
   | ((with_reducible refine cY (.store 109 (.tmp 2) _) ?_);refine af aj z (.tmp 2) (.tmp 51) z w.1.size BL _ z z HT.o.f e4.o.1 j0.o ?_;intro U6 J j;have a0:=O (HT.o.Dc J j);have a6:=O (bx M a3.o j (FL _) (by omega));have a7:=O (j.Dz i0.o (by omega));have f9:=O (j.Dz i1.o (by omega));have a5:=O (show ak U6 (w.1.size+1) 60 ([I k,I l,I c,.string s,.string t]++(S++_)) by rw[<-jg];exact a0.o.s);clear J j HT a3 i0 i1)
   | ((with_reducible refine cY (.store 58 _ _) ?_);refine dc be z (.tmp 53) (.tmp 52) z (w.1.size+1) 5 xs z z a5 z N.1 g5 ?_;intro T6 J j;rw[<-jg]at J;have g9:=O (a0.Dw J j);have l4:=O (bx M a6 j (by omega) (by omega));have l5:=O (j.Dz a7 (by omega));have l3:=O (j.Dz f9 (by omega));clear J j a0 a6 a7 a5 f9)
  )
  apply g;clear g G;have A:=O (bR z g5.1 d9.1 (C:=cO k l c s t xs ys (.slice ab body.length d2) (.slice ae els.length d4) (D.P.stmts:Int) sl ot lo));have q0:=(g9.s.cell 0).trans A.1;refine wk fun G g=>?_;go_wp2;apply g;clear g G q0 A;refine wk fun G g=>?_;have hw:=rx k T6;go_wp2_with fail;apply hw.mono;clear hw;rintro e W8 ⟨rfl,rfl⟩;go_wp2;apply g;clear g G;have d7:=(go (l,c) y D.inc).trans (go (l,c) x _);rw[i2.o,i4.o]at d7;have E:=d8.o;simp only[i2.o,i4.o]at E;have k0:=O E;exact Ap M (j8.EK d7) (by rw[d7.loc];exact l7) g9 l4 l5 l3 HB HE IB IE k0
def dd(f:fT):PanicEntry:={v:= .iface 95 (.agg #[.int .i64 f.1.1,.int .i64 f.1.2,.int .i64 f.2]),recovered:=false}
structure PF where
 L:List Nm
 ce:Int
 n:Nat
 loc:Nat
 mo:Nat
def wE(k:Int)(a b:Int)(p q:Bool)(n:Nat):MapEntry:=⟨.int .i64 k,.agg #[.int .i64 a,.int .i64 b,.bool p,.bool q],n⟩
def gA:List MapEntry:=[wE 2 1 0 true false 0,wE 3 2 0 false false 1,wE 6 3 0 false false 2,wE 7 3 0 false false 3,wE 8 4 3 false false 4,wE 9 4 0 false false 5,wE 10 4 0 false false 6,wE 11 5 0 false false 7,wE 12 5 1 false true 8,wE 13 6 0 false false 9]
def eD(g h:Nat)(D:PF):List Fr:=[.map (some g),.map (some h),.int .i64 D.ce,.int .i64 (D.n:Int),.int .i64 (D.loc:Int),.int .i64 (D.mo:Int)]
structure Fi (w:Fk) (F g h:Nat) (pc:List Fr) (D:PF):Prop where
 lp:pc.length=13
 f:ak w F 101 (pc++eD g h D)
 m:oV w g D.L
 wm:w.1[h]? =some (.map gA.toArray 10)
 fg:F≠g
 fh:F≠h
 gh:g≠h
section
variable {w w':Fk} {F g h b:Nat} {pc:List Fr} {D:PF}
theorem Fi.at(H:Fi w F g h pc D)(j:Nat):w.cell? (ad F (13+j))=(eD g h D)[j]? :=by rw[H.f.cell,List.getElem?_append_right (by rw[H.lp];omega),H.lp,Nat.add_sub_cancel_left]
theorem Fi.c13(H:Fi w F g h pc D):w.cell? (ad F 13)=some (.map (some g)):=H.at 0
theorem Fi.c14(H:Fi w F g h pc D):w.cell? (ad F 14)=some (.map (some h)):=H.at 1
theorem Fi.c15(H:Fi w F g h pc D):w.cell? (ad F 15)=some (I D.ce):=H.at 2
theorem Fi.c16(H:Fi w F g h pc D):w.cell? (ad F 16)=some (I D.n):=H.at 3
theorem Fi.c17(H:Fi w F g h pc D):w.cell? (ad F 17)=some (I D.loc):=H.at 4
theorem Fi.c18(H:Fi w F g h pc D):w.cell? (ad F 18)=some (I D.mo):=H.at 5
theorem oV.lt{L:List Nm}(H:oV w g L):g<w.1.size:=by obtain⟨A,n,j,-⟩:=H;exact(FT.1 j).1
theorem Fi.EH(H:Fi w F g h pc D):F<w.1.size/\g<w.1.size/\h<w.1.size:=⟨H.f.lt,H.m.lt,(FT.1 H.wm).1⟩
theorem oV.of{L:List Nm}(H:oV w g L)(C:w'.1[g]? =w.1[g]?):oV w' g L:=by
 let ⟨j,n,E,A⟩:=H
 exact⟨j,n,C.trans E,A⟩
theorem Fi.of(H:Fi w F g h pc D)(C:w'.1[F]? =w.1[F]?)(j:w'.1[g]? =w.1[g]?)(A:w'.1[h]? =w.1[h]?):Fi w' F g h pc D:=⟨H.lp,H.f.of C,H.m.of j,A.trans H.wm,H.fg,H.fh,H.gh⟩
theorem Fi.below(H:Fi w F g h pc D){B:Nat}(j:FM B w w')(C:F<B)(A:g<B)(E:h<B):Fi w' F g h pc D:=H.of (j.block _ C) (j.block _ A) (j.block _ E)
theorem Fi.up(H:Fi w F g h pc D)(j:bL w w'):Fi w' F g h pc D:=H.below j H.EH.1 H.EH.2.1 H.EH.2.2
theorem Fi.ch(H:Fi w F g h pc D)(E:Ch b w w')(A:F≠b)(j:g≠b)(C:h≠b):Fi w' F g h pc D:=by obtain⟨o,vs,rfl⟩:=E;exact H.of (au A _ _ _) (au j _ _ _) (au C _ _ _)
theorem iQ{A:Type}:∀ (l r:List A) (j:Nat) (v:A),(l++r).set (l.length+j) v=l++r.set j v
 | [],r,j,v=>by simp
 |x::l,r,j,v=>by rw[GM,List.length_cons,show l.length+1+j=(l.length+j)+1 by omega,List.set_cons_succ,iQ l r j v,GM]
theorem Fi.set(H:Fi w F g h pc D)(j:Nat)(v:Fr)(D':PF)(C:D'.L=D.L)(E:(eD g h D).set j v=eD g h D'):Fi (w.setCell (ad F (13+j)) v) F g h pc D':=by have A:=H.f.set1 (13+j) v;rw[show 13+j=pc.length+j by rw[H.lp],iQ,E]at A;rw[show 13+j=pc.length+j by rw[H.lp]];exact⟨H.lp,A,by rw[C];exact H.m.of (Below.heap_setCell w (ad F (pc.length+j)) v g (Ne.symm H.fg)),(Below.heap_setCell w (ad F (pc.length+j)) v h (Ne.symm H.fh)).trans H.wm,H.fg,H.fh,H.gh⟩
theorem Fi.map(H:Fi w F g h pc D)(j:iz g w w'){L:List Nm}(A:oV w' g L):Fi w' F g h pc {D with L:=L}:=⟨H.lp,j.CV H.fg H.f,A,(j.block _ (Ne.symm H.gh)).trans H.wm,H.fg,H.fh,H.gh⟩
end
def xG{α:Type}(w:Fk)(R:Except fT α)(ok:α->GP->Fk->Prop)(e:GP)(w':Fk):Prop:=FM w.1.size w w'/\match R with
 | .error f=>e= .panicked [dd f]
 | .ok x=>ok x e w'
theorem gd(k s:Int)(w:Fk):Jq prog 151 #[.agg #[I k,I s]] w fun e w'=>e= .returned (.bool (decide (k=0)))/\bL w w':=by go_in;go_wp2;go_ret;exact⟨z,(FB _ w).alloc rl _⟩
theorem eT(n a b:Int)(p:Int×Int)(w:Fk):Jq prog 79 #[I n,I a,I b,.agg #[I p.1,I p.2]] w fun e w'=>bL w w'/\e=(if n<a∨b<n then .panicked [dd (p,134)] else .returned (.tuple #[])):=by
 let ⟨R,g⟩:=eX ((if n<a∨b<n then Ending.panicked [dd (p,134)] else .returned (.tuple #[])))
 rw[g];have A:=O g;clear g;let ⟨l,c⟩:=p
 have j:=O ((FB w.1.size w).alloc rl (.cells #[I l,I c] 32));go_in;go_wp2;all_goals have g:=A.o
 .rw[aD (by omega)]at g;exact⟨z,j,g⟩
 .rw[am (by omega)]at g;go_end0;exact⟨j,g⟩
 .rw[aD (by omega)]at g;exact⟨z,j,g⟩
theorem eR:∃i z,prog.info? 104=some i/\i.zero=some z/\z.cells=([I 0,I 0]:List Fr).toArray:=fH (by kernel_rfl)
theorem bY:(prog.info? 104).map (·.size)=some 2:=by kernel_rfl
theorem hQ:∃d,prog.underlying 104=some d/\d.isRow=true:=by
 have h:(prog.underlying 104).map (·.isRow)=some true:=by kernel_rfl
 let ⟨d,j,g⟩:=Option.map_eq_some_iff.1 h
 exact⟨d,j,g⟩
def xH(r:Option Nm):Int:=match r with
 |none=>0
 |some x=> (x.kind:Int)
def xM(r:Option Nm):Int:=match r with
 |none=>0
 |some x=> (x.slot:Int)
theorem mr(r:Option Nm):AU r= .agg #[I (xH r),I (xM r)]:=by cases r<;>rfl
def Am(x:Nm)(e:GP)(_:Fk):Prop:=e= .returned x.ev
theorem gY{F h:Nat}{pc:List Fr}{D:PF}(H:Fi w F g h pc D)(s:ByteArray)(k:Nat)(lo:Bool)(p:Int×Int):Jq prog 150 #[Pt F,.string s,I k,.bool lo,.agg #[I p.1,I p.2]] w (xG w (hs D.L s k lo p) Am):=by
 obtain⟨i4,z4,b4,a7,b5⟩:=eR;obtain⟨d4,a1,a0⟩:=hQ;obtain⟨R,j⟩:=eX (hs D.L s k lo p);rw[j];unfold hs at j;have W:=O j;clear j;have HH:=O H;clear H;obtain⟨l,c⟩:=p;go_in;refine wk fun K A=>?_;go_wp2_with (first
  | (with_reducible refine cp 9 (.box 32 _) ?_;refine aJ z (.tmp 4) z [I l,I c] z w.1.size z ?_;intro W1 k1 b1 a9;have K1:=O k1;have Y:=O b1;clear k1 b1)
  | (with_reducible refine cp 10 (.alloc 104) ?_;refine ag b4 a7 b5 z z (w.1.size+1) a9 ?_;intro W2 k2 b2 s2;have K2:=O k2;have c8:=O b2;clear k2 b2)
 )
 refine A.o _ _ ?_;clear A K;have HF:=O ((HH.o.up Y.o).up c8.o);have HB:=O (Y.o.trans (c8.o.mono Y.o.size));have Q:=O (K1.o.below c8.o);have HX:=O K2.o;clear K1 K2 Y c8 a9 HH;have c13:=HF.o.c13;have a5:=jG HF.o.m s;rw[mr]at a5;obtain⟨r,hr⟩:∃r,ex D.L s=r:=⟨_,z⟩;rw[hr]at a5 W;clear hr;have G:=Q.o.cell 0;have E:=Q.o.cell 1;simp only[FE,FH]at G E;refine wk fun K A=>?_;go_wp2_with (first
  | (with_reducible refine cp 11 (.alloc 104) ?_;refine ag b4 a7 b5 z z (w.1.size+1+1) s2 ?_;intro W3 k3 b3 s3;have K3:=O k3;have Z:=O b3;clear k3 b3)
  | (with_reducible refine s0 104 ?_;refine af bY z (.tmp 11) (.tmp 20) z (w.1.size+1+1) [I (xH r),I (xM r)] _ z z K3.o z ⟨z,by simp[GZ]⟩ ?_;intro W4 k4 c4;have S:=O (EQ k4 c4);clear k4 c4)
 )
 refine A.o _ _ ?_;clear A K;have hp:=Q.o.lt;have hx:=HX.o.lt;have X:=O (S.o.2.CV (by omega) (Q.o.below Z.o));have a2:=O (S.o.2.CV (by omega) (HX.o.below Z.o));have J:=O (S.o.2.below (by omega) (HB.o.trans (Z.o.mono HB.o.size)));have c9:=O S.o.1;clear Q HX HB K3 Z S c13 a5 G E HF;have G:=X.o.cell 0;have E:=X.o.cell 1;have e0:=c9.o.cell 0;have e1:=c9.o.cell 1;simp only[FE,FH]at G E e0 e1;rcases r with _|x
 .have j:=W.o;go_wp2_with fail;subst j;exact⟨z,J.o,z⟩
 have j:=W.o;simp only[xH,xM]at e0 e1;refine wk fun K A=>?_;go_wp2_with fail;refine A.o _ _ ?_;clear A K;obtain⟨xt,C,xs⟩:=x;have a4:Hid (ak W4 (w.1.size+1+1) 104 [I C,I xs]):=c9;clear c9;refine wk fun K A=>?_;by_cases hk:C=k
 .subst hk;rw[am (by simp)]at j;have a3:=O j.symm;clear j W;go_wp2_with fail;refine A.o _ _ ?_;go_wp2_with (first
   | (with_reducible refine l0 104 ?_;refine ac a1 a0 bY z (.tmp 11) z (w.1.size+1+1) [I C,I xs] z a4 z ?_)
   | (with_reducible refine s0 104 ?_;refine af bY z (.tmp 10) (.tmp 42) z (w.1.size+1) [I C,I xs] _ z z a2.o z ⟨z,by simp[GZ]⟩ ?_;intro W9 V N;have U:=O (EQ V N);clear V N)
  )
  refine aC a1 a0 bY U.o.1 z z z z ?_;rw[a3.o];exact⟨U.o.2.below (by omega) J.o,z⟩
 .have b9:¬ (C:Int)=(k:Int):=by omega
  cases lo with
  |false=>
   rw[aD ⟨hk,by simp⟩]at j;go_wp2_with fail;subst j;exact⟨z,J.o,z⟩
  |true=>
   go_wp2_with fail;refine(gd (C:Int) (xs:Int) W4).mono ?_;rintro e W5 ⟨rfl,M⟩;have a8:=O (J.o.trans (M.mono J.o.size));have a6:=O (X.o.below M);have b6:=O (a2.o.below M);have b8:=O (a4.o.below M);clear M J X a2 a4 G E e0 e1;have G:=a6.o.cell 0;have E:=a6.o.cell 1;simp only[FE,FH]at G E;by_cases h0:C=0
   .have b7:(C:Int)=0:=by omega
    rw[am (by simp[h0])]at j;have a3:=O j.symm;clear j W;go_wp2_with fail;refine A.o _ _ ?_;go_wp2_with (first
     | (with_reducible refine l0 104 ?_;refine ac a1 a0 bY z (.tmp 11) z (w.1.size+1+1) [I C,I xs] z b8 z ?_)
     | (with_reducible refine s0 104 ?_;refine af bY z (.tmp 10) (.tmp 42) z (w.1.size+1) [I C,I xs] _ z z b6.o z ⟨z,by simp[GZ]⟩ ?_;intro W9 V N;have U:=O (EQ V N);clear V N)
    )
    refine aC a1 a0 bY U.o.1 z z z z ?_;rw[a3.o];exact⟨U.o.2.below (by omega) a8,z⟩
   .have b7:¬ (C:Int)=0:=by omega
    rw[aD ⟨hk,by simp[h0]⟩]at j;go_wp2;subst j;exact⟨z,a8,z⟩
end Go.Proofs.YtgppcdfgdaggjaaGreatDoor
