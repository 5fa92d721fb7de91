/- Texts laid together. No condition but what each law says. -/
import Derived.Test.YtgppcdfgdaggjaaGreatDoorF21
set_option maxRecDepth 100000
set_option maxHeartbeats 8000000
namespace Go.Proofs.YtgppcdfgdaggjaaGreatDoor
open Go.RowKit Go.Maps Go.Proofs.Tryz
open Bool renaming false_eq_true→FN,and_eq_true→FG
open Go renaming Ending→GP,Value→Fr,World→Fk,bodyPost→Gb,undef→Gm,wpList_load_mid→Gn
open Option renaming map_eq_some_iff→Ga,isSome_iff_exists→IX,getD_some→HS
open Nat renaming le_refl→FL,le_trans→FU,lt_of_lt_of_le→FJ,zero_le→FX
open List renaming getElem?_eq_getElem→FC,drop_eq_getElem_cons→FZ,drop_length→Hn,getD_eq_getElem?_getD→FD,getElem_mem→Gy,mem_cons→FQ,find?_eq_none→Hb,map_append→IM,mem_append→GG,mem_map→HM,length_eq_zero_iff→Hf,not_mem_nil→FO
open Go.RowKit renaming Below→FM
open And renaming intro→EQ
open Go.Code renaming wp→FR
open Go.World renaming setCell→Gc,cell?→FI
open Go.Act renaming put→Gf
open Go.RowKit.Below renaming refl→FB
open Go.Value renaming int→Gr,ownBlock→GF,slice→Gd
variable {V W w w0:Fk}{b g i j k n n0 n2 n5:Nat}{A:Act}{v v0 v1 v2 v3 v4 v5:Fr}{l2 l3:List Fr}{D D0:DF}{a a0 a1:Option Addr}{s s6 t:ByteArray}{N:List Nm}{p0 p1:Int}
theorem uh{o:Oper}{a:Act}{A:Act->Fk->Prop}{M:Exit->Act->Fk->Prop}{F:Nat}(K:(prog.funcs[F]?).map (fun j=> (j.name== "runtime.NumGoroutine",j.body.isNone))=some (false,false)){x y:Operand}{E:Array TypeId}(C:o.op= .call {callee:= .value (.func F),args:= #[x,y],argTypes:=E}){vx vy:Fr}(D:a.eval x=vx)(J:a.eval y=vy){R:GP->Fk->Prop}(Q:Calls prog F #[vx,vy] W R)
  (U:∀e g,R e g->∃v,e= .returned v/\A (a.put o.dst v) g):o.wp prog a W A M:=by
 obtain⟨j,S,w⟩:=Ga.1 K;simp only[Prod.mk.injEq]at w;have H:(execOp a.eval o).run prog W= .ok (.enter F #[vx,vy]) W:=by have G:a.eval (.func F)= .func (.func F) #[] #[]:=z;unfold execOp;simp only[C,resolve,invoke,List.map_toArray,List.map_cons,List.map_nil,D,J,G,Deferred.ofValue,Sem.run_bind,Sem.run_pure,Result.andThen_ok,callFunc,run_program,S,w.1,w.2,FN,if_false];simp
 unfold Oper.wp;rw[H,Oper.upon_enter];refine Q.mono fun e g h=>?_;obtain⟨v,rfl,N⟩:=U e g h;exact N
theorem yd{T:TypeId}{d:TypeDesc}(j:prog.underlying T=some d)(K:d.isRow=true)(w:(prog.info? T).map (·.size)=some n){g:Func}{R:GP->Fk->Prop}{s u:Tmp}{cs:List Fr}(h:ak W b T cs)(C:cs.length=n)(F:g.results= #[.cell s T,.tmp u])
  (J:A.tmps.getD s Gm=Pt b)(E:A.tmps.getD u Gm=v)(hd:A.defers=[])(M:R (.returned (.tuple #[.agg cs.toArray,v])) W):Gb prog g R .ret A W:=by
 have H:A.tmps[s]?.getD Gm=Pt b:=by rw[<-J];simp
 have G:A.tmps[u]?.getD Gm=v:=by rw[<-E];simp
 have D:=run_loadVar_mid (P:=prog) W b 0 T cs d h.whole j K (by rw[C];exact w);refine bodyPost_ret (v:= .tuple #[.agg cs.toArray,v]) ?_ hd M;simp[results,F,H,G,asAddr,D]
theorem xB(D:DF)(p:Int×Int)(k:Int)(s t:ByteArray)(sl ot:Int)(lo:Bool):(D.DR p k s t sl ot lo).1.P=D.P:=by
 rw[oM];unfold DF.stM;have g:=(mx D p k s sl lo).P;split
 .show (DF.DD _ p).P=D.P;rw[(ko _ p).1.P,(lf _ p s).P,g]
 .split
  .show (DF.CZ _ _ _ _ _).1.P=D.P;rw[(dX _ _ _ _ _).P,g]
  .split
   .show (DF.CZ _ _ _ _ _).1.P=D.P;rw[(dX _ _ _ _ _).P,g]
   .exact g
mutual
theorem tj:∀ (s:St) (D:DF),D.P.stmts<=(DF.st s D).1.P.stmts/\((DF.st s D).1.CR=0->D.P.stmts+1<=(DF.st s D).1.P.stmts)
 | .mk k l c s t x y body els id sl ot lo,D=>by
  rw[DF.st]
  split
  .refine⟨Nat.le_of_eq (congrArg Pg.stmts (gb D (e:=134) (by decide) (l,c)).P.symm),fun h=>?_⟩
   exfalso
   have h':(D.DA 134 (l,c)).CR=0:=h
   unfold DF.DA at h'
   split at h'
   .have h2:(134:Int)=0:=h'
    cases h2
   .exact absurd h' (by assumption)
  .have h1:=mR body (((DF.ex (l,c) x (DF.ex (l,c) y D.inc).1).1.DR (l,c) k s t sl ot lo).1)
   have h2:=mR els ((DF.Dp body ((DF.ex (l,c) x (DF.ex (l,c) y D.inc).1).1.DR (l,c) k s t sl ot lo).1).1.back ((DF.ex (l,c) x (DF.ex (l,c) y D.inc).1).1.DR (l,c) k s t sl ot lo).1)
   rw[xB,(go (l,c) x _).P,(go (l,c) y _).P]at h1
   have h3:D.P.stmts+1<=(DF.Dp body ((DF.ex (l,c) x (DF.ex (l,c) y D.inc).1).1.DR (l,c) k s t sl ot lo).1).1.P.stmts:=h1
   have h4:=FU h3 h2
   exact⟨FU (Nat.le_succ _) h4,fun _=>h4⟩
theorem mR:∀ (r:List St) (D:DF),D.P.stmts<=(DF.Dp r D).1.P.stmts
 | [],D=>by rw[DF.Dp];exact FL _
 |s::r,D=>by
  rw[DF.Dp]
  split
  .exact FL _
  .exact FU (tj s D).1 (mR r _)
end
def lY:El Unit:=⟨60,25,fun _ _ cs _=>cs.length=25/\∀v∈cs,v.oneCell'=true,fun _ h=>h,fun _ h=>h,fun h=>h,fun h=>h⟩
theorem aL.any{B:Nat}{l:List St}(h:aL fn B w v l):aL lY B w v (l.map fun _=> ()):=by
 let ⟨cells,D,C,A⟩:=h
 refine⟨cells,by simpa using D,by rw[List.length_map];exact C,fun i cs x g j=>?_⟩;have E:i<l.length:=by have:=(List.getElem?_eq_some_iff.1 j).1;simpa using this
 exact fn.cells (A i cs l[i] g (FC E))
theorem uO{B:Nat}{x:St}(h:bX (fun c=>j<=c/\c<n) W l2 x)(A:∀g,v.ownBlock=some g->g<j)(C:B<=j):fn.L (fun c=>B<=c/\v.ownBlock≠some c) W l2 x:=bX.CQ (fun c w=>⟨by have:=w.1;omega,fun e=>by have:=A c e;have:=w.1;omega⟩) h
structure Bq (w:Fk) (cs:List Fr) (W:Fk):Prop where
 b:FM w.1.size w W
 f:ak W w.1.size 109 cs
 z:ak W (w.1.size+1) 109 nx
def xP(ok:Nat->Prop)(w W:Fk)(c:Nat):Prop:=(ok c∨w.1.size+2<=c)/\c<W.1.size
section
variable {w W W':Fk} {cs cs':List Fr} {ok:Nat→Prop} {D:DF}
theorem Bq.lt(h:Bq w cs W):w.1.size+2<=W.1.size:=by have:=h.z.lt;omega
theorem Bq.Dy(h:Bq w cs W)(g:FM (w.1.size+2) W W'):Bq w cs W':=⟨h.b.trans (g.mono (by omega)),h.f.of (g.block _ (by omega)),h.z.of (g.block _ (by omega))⟩
theorem Bq.below(h:Bq w cs W)(g:bL W W'):Bq w cs W':=h.Dy (g.mono h.lt)
theorem Bq.Dc(h:Bq w cs W)(j:ak W' w.1.size 109 cs')(g:Ch w.1.size W W'):Bq w cs' W':=⟨g.below rl h.b,j,g.CV (by omega) h.z⟩
theorem rR(h:aG (xP ok w W) W D cs)(g:bL W W'):aG (xP ok w W') W' D cs:=(h.below g).CQ fun _ j=>⟨j.1,FJ j.2 g.size⟩
theorem qm(A:∀c,ok c->c<w.1.size)(h:aG (xP ok w W) W D cs)(g:Ch b W W')(E:w.1.size<=b)(C:b<w.1.size+2):aG (xP ok w W') W' D cs:=(g.df (fun e=>by
 rcases e.1 with e|e
 .have:=A _ e;omega
 .omega) h).CQ fun c j=>⟨j.1,by rw[g.size];exact j.2⟩
end
def wd(ok:Nat->Prop)(w W:Fk)(v:Fr)(c:Nat):Prop:=xP ok w W c/\v.ownBlock≠some c
def Cb(s:St):Prop:=∀ (ok:Nat->Prop) (D:DF) (cs sc:List Fr) (W:Fk),(∀c,ok c->c<W.1.size)->aG ok W D cs->hz D->D.CR=0->bX (fun _=>True) W sc s->Calls prog 81 #[.agg cs.toArray,.agg sc.toArray] W (zF ok W (DF.st s D))
theorem nd{ok:Nat->Prop}{cs:List Fr}{l:List St}(K:∀c,ok c->c<w.1.size)(C:Hid (Bq w cs W))(F:Hid (aG (xP ok w W) W D0 cs))(a8:Hid (Ro ma ok w (.slice a0 D.names.length j) D.names))(a7:(DF.Dp l D).1=D0)
  (E:Hid (D0.CR=0->g=(DF.Dp l D).2.length/\aF g n0/\aE (w.1.size+2<=·) W a1 0 (DF.Dp l D).2))(hU:l2.length=38:=by rfl):
  FR prog (Jp 4 (f42.body.getD .skip)) (Gb prog f42 (zQ ok w (DF.CV l D))) ⟨(v0::v1::Pt w.1.size::v2::Pt (w.1.size+1)::v3:: .slice a0 D.names.length j::I D.locals:: .slice a1 g n0::l2).toArray,[]⟩ W:=by
 revert l2;apply aN;iterate 38 intro _
 change FR _ _ _ _ _;let ⟨du,Z,a2⟩:=cd
 have HL:=O F.cells;obtain⟨-,V,-,vn,a3,-⟩:=F.c7;have b5:=(C.f.cell 13).trans a3;have b6:=(C.f.cell 15).trans V;have b4:=C.f.frozen;have a9:Hid (DF.CV l D=(D0.back D,(DF.Dp l D).2)):=O (by unfold DF.CV;rw[a7]);rw[a9.o];clear V a3 a7;obtain⟨U,a6⟩:=eX ((DF.Dp l D).2);rw[a6]at E ⊢;clear a9 a6;conv in (Jp _ _)=>whnf
 refine wk fun KK a4=>?_;go_wp2;apply a4;clear a4 KK b5 b6 b4;have H:=C.Dc (C.f.set1 13 (.slice a0 D.names.length j)) (Ch.one 13 _ W);have h2:=H.Dc (H.f.set1 15 (I D.locals)) (Ch.one 15 _ _);have Y:=aG.Eg (aG.CQ (fun c A=>A.1) F) (Ro.CQ (fun c A=> .inl A) (a8.keep fun b o u _ R=>ai C.b b o u R));have hd:=(Y.tight).EG D.locals;have Q:=qm K (qm K hd (Ch.one (b:=w.1.size) 13 (.slice a0 D.names.length j) W) rl (by omega)) (Ch.one (b:=w.1.size) 15 (I D.locals) _) rl (by omega);have a5:D0.CR=0->g=U.length/\aF g n0/\aE (w.1.size+2<=·) ((W.setCell ⟨w.1.size,13,none⟩ (.slice a0 D.names.length j)).setCell ⟨w.1.size,15,none⟩ (I D.locals)) a1 0 U:=fun h=>⟨(E.o h).1,(E h).2.1,(E h).2.2.keep fun c o u A R=>by have b8:w.1.size+2<=c:=A;rw[(Ch.one (b:=w.1.size) 15 (I D.locals) _).cell (by omega),(Ch.one (b:=w.1.size) 13 (.slice a0 D.names.length j) W).cell (by omega)];exact R⟩
 generalize ((cs.set 13 (.slice a0 D.names.length j)).set 15 (I D.locals))=S at *;have J:=O h2;have b7:=O Q;have M:=O a5;have N:=O Q.cells;clear H h2 Y hd Q a5 C F E;generalize Gc (Gc _ _ _) _ _=W2 at *;go_wp2_with (first
  | (with_reducible refine l1 45 109 ?_;refine ac Z a2 aj z (.tmp 2) z w.1.size S z (O J.o.f) N.o.1 ?_)
  | (with_reducible refine s0 109 ?_;refine af aj z (.tmp 4) (.tmp 45) z (w.1.size+1) S _ z z J.o.z z N.o ?_;intro W7 X c7;have G:=O (EQ X c7);clear X c7)
 )
 refine yd Z a2 aj G.o.1 N.o.1 z z z z ?_;refine⟨⟨S,a1,g,n0,z,(G.2.df (fun e=>?_) b7).CQ fun c A=>?_,fun h=>⟨(M h).1,(M h).2.1,?_⟩⟩,G.2.below (by omega) J.b⟩
 .rcases e.1 with e|e
  .have:=K _ e;omega
  .omega
 .rcases A.1 with h|h
  .exact .inl h
  .exact .inr (by omega)
 .have h0:=(M h).2.2.keep (w':=W7) fun b o v hb hv=>by have b9:=hb;rw[G.o.2.cell (by omega)];exact hv
  exact h0.CQ fun c A=>by have b8:=A;show w.1.size<=c;omega
theorem iF(l:List St)(l9:∀s∈l,Cb s):qR l:=by
 intro ok D cs w a cap b6 hD a8 j8 hI;obtain⟨du,g7,g8⟩:=cd;obtain⟨o5,j0,f7⟩:=hj;obtain⟨i9,z9,l4,l2,l6⟩:=em;obtain⟨i6,z6,p1,p0,p5⟩:=ki;obtain⟨i0,z0,f4,e3,d9,e8,m6⟩:=bJ mS;have e0:prog.underlying 44=some (.slice 60):=by kernel_rfl
 obtain⟨S,hN⟩:∃S,l.length=S:=⟨_,z⟩;rw[hN]at a8 ⊢;have HN:=O hN;have r3:=O a8;have p9:=O j8;have q1:=O l9;have HI:=O hI;have HL:=O hD.cells;obtain⟨-,j2,-,vn,k0,f9⟩:=hD.c7;obtain⟨va,q6,rfl,-⟩:=id f9;have j9:=O f9;have j5:=O (EQ j2 k0);have Y:=O hD;clear hN a8 j8 l9 hI j2 k0 f9 hD;go_enter func42,ntmps42;refine wk fun KK Q=>?_;go_wp2_with (first
  | ((with_reducible refine cp 2 (.box 109 _) ?_);refine aJ z (.tmp 0) z cs z w.1.size z ?_;intro W1 k1 b1 l3;have K1:=O k1;have B1:=O b1;clear k1 b1)
  | ((with_reducible refine cp 4 (.alloc 109) ?_);refine ag l4 l2 l6 z z (w.1.size+1) l3 ?_;intro W2 k2 b2 s2;have K2:=O k2;have B2:=O b2;clear k2 b2)
  |fail)
 refine Q.o _ _ ?_;clear Q KK;have e9:=B1.o.trans (B2.o.mono B1.o.size);have HB:Hid (Bq w cs W2):=O ⟨e9,K1.o.below B2.o,K2.o⟩;have m0:Hid (aG (xP ok w W2) W2 D cs):=O ((Y.o.below e9).CQ fun c A=>⟨.inl A,FJ (b6 c A) e9.size⟩);clear B1 B2 K1 K2 e9 l3 s2 Y;refine wk fun KK Q=>?_;go_wp2_with fail;have n9:prog.follows .mixedOrders=true:=by kernel_rfl
 obtain⟨U,R⟩:∃U,W2.drew=U:=⟨_,z⟩;have X:Hid (Bq w cs U):=O (by rw[<-R];exact HB.o.below (FB _ W2).drew);have a5:Hid (aG (xP ok w U) U D cs):=O (by rw[<-R];exact rR m0.o (FB _ W2).drew);clear HB m0;refine al [] (fun W=>W=U) n9 ?_;rw[R];clear R;have a2:Hid (U=U):=O z;refine tk 0 (some 12) a2 ?_;refine aM 1 (some 13) (v:=?_) z z (by kernel_rfl) (fun _ _ _ h=>h) a2.o (Or.inl ⟨by rfl,?_⟩) ?_;rotate_left
 .intro W1 b8;have r7:=(X.o.f.cell 13).trans j5.o.2;rw[b8];clear b8;go_simp;first|with_reducible rfl|rw[am (by omega)]
 refine tk 2 (some 14) a2 ?_;refine aM 3 (some 15) (v:=?_) z z (by kernel_rfl) (fun _ _ _ h=>h) a2.o (Or.inl ⟨by rfl,?_⟩) ?_;rotate_left
 .intro W1 b8;have r2:=(X.o.f.cell 15).trans j5.o.1;rw[b8];clear b8;go_simp;first|with_reducible rfl|rw[am (by omega)]
 refine nm ?_;refine tk 4 (some 6) a2 ?_;refine tk 5 (some 7) a2 ?_;refine nm ?_;refine dn ?_;refine Q.o _ _ ?_;clear Q KK a2;refine wk fun KK Q=>?_;go_wp2_with fail;refine Q.o _ _ ?_;clear Q KK;refine wk fun KK Q=>?_;go_wp2_with fail;go_loopg [8,9] S (fun x ov iv wr=>∃ (i:Nat) (M:DF) (a0:List Fr) (us:List Unit),i<=S/\x=S-i/\iv=I i/\us.length=i/\Hid (aL lY (w.1.size+2) wr ov us)/\Hid (M.CR=0->i<=M.P.stmts/\∃acc,acc.length=i/\aL fn (w.1.size+2) wr ov acc/\acc++(DF.Dp (l.drop i) M).2=(DF.Dp l D).2)/\Hid ((DF.Dp (l.drop i) M).1=(DF.Dp l D).1)/\Hid (Bq w a0 wr)/\Hid (aG (wd ok w wr ov) wr M a0)/\Hid (hz M))
 case atStart=>exact⟨0,D,cs,[],FX _,z,z,z,O (aL.nil _ _ _),O fun _=>⟨FX _,[],z,aL.nil _ _ _,by simp⟩,O (by simp),X,O (a5.o.CQ fun c A=>⟨A,by simp[GF]⟩),HI⟩
 case round=>
  clear X a5 HI;obtain⟨i,M,a0,us,hi,rfl,rfl,g6,HU,HG,e7,HB,Y,HI⟩:=hrel;obtain⟨G,H,rfl,f8⟩:=HU.o.form;rw[g6]at HU HG Y f8 ⊢;have i7:=O g6;have p4:=O f8;clear g6 f8;have c19:=(HB.o.f.cell 19).trans Y.o.c19;obtain⟨fl,g5⟩:∃x,M.CR=x:=⟨_,z⟩;rw[g5]at c19;have a4:=O g5;clear g5;by_cases d8:i<S
  .have q2:(i:Int)< (S:Int):=by omega
   by_cases g1:fl=0
   .subst g1;have q8:(0:Int)<=(i:Int):=by omega
    go_wp2_with fail;have p8:prog.follows .mixedOrders=true:=by kernel_rfl
    obtain⟨C,R⟩:∃U,wr.drew=U:=⟨_,z⟩;have X:Hid (Bq w a0 C):=O (by rw[<-R];exact HB.o.below (FB _ wr).drew);have a5:Hid (aG (wd ok w C (.slice G i H)) C M a0):=O (by rw[<-R];exact Y.o.below (FB _ wr).drew);have f6:Hid (aL lY (w.1.size+2) C (.slice G i H) us):=O (by rw[<-R];exact HU.o.below (FB _ wr).drew);obtain⟨k6,acc,m1,m9,f1⟩:=HG.o a4.o;have m4:Hid (aL fn (w.1.size+2) C (.slice G i H) acc):=O (by rw[<-R];exact m9.below (FB _ wr).drew);have i2:=O a5.o.cells;obtain⟨b2,l7,sc,rfl,-,j6,i8⟩:=(p9.o.Do X.o.b).at i (by rw[HN.o];exact d8);have l8:l.getD i default∈l:=by rw[FD,FC (by rw[HN.o];exact d8)];exact Gy _
    have j7:l.drop i=l.getD i default::l.drop (i+1):=by rw[FZ (by rw[HN.o];exact d8),FD,FC (by rw[HN.o];exact d8)];rfl
    have d7:=e7.o;rw[j7,DF.Dp,am (by rw[a4.o];decide)]at d7 f1;have h7:=fun W (hw:FM C.1.size C W) (hx:bX (fun _=>True) W sc (l.getD i default))=>q1.o _ l8 (wd ok w C (.slice G i H)) M a0 sc W (fun c A=>FJ A.1.2 hw.size) (a5.o.below hw) HI.o a4.o hx;have f5:=th (l.getD i default) HI.o a4.o;have g2:=(tj (l.getD i default) M).2;generalize l.getD i default=s at *;obtain⟨⟨N,s3⟩,j1⟩:∃q,DF.st s M=q:=⟨_,z⟩;rw[j1]at d7 f1 f5 g2;simp only[j1]at h7;have j3:=O h7;have m2:=O d7;have o7:=O f1;have n5:Hid (hz N):=O f5;have q4:=O g2;have m5:Hid (∀W,FM C.1.size C W->bX (fun _=>True) W sc s):=O fun W hw=>i8.keep fun b o u _ K=>ai hw b o u K
    have n6:Hid (C.rangeAt b2 (l7+i*25) sc):=O fun t v hv=>by simpa using j6 t v hv
    have q0:=O i8.cells;have b7:=O X.o.lt;have d5:=O (EQ k6 (HI.o.ok a4.o).2);have d1:=O m1;have n7:Hid (∀g,(Gd G i H).ownBlock=some g->g<C.1.size):=O fun g hg=>by obtain⟨cells,-,h5,-⟩:=f6.o.own;exact(h5.lt g hg).2
    clear HB Y HU HG m9 k6 m1 f1 d7 h7 f5 g2 i8 j6 j7 j1 l8 HI e7 c19;refine al [12] (fun W=>FM C.1.size C W) p8 ?_;rw[R];clear R;have HS:Hid (FM C.1.size C C):=O (FB _ C);refine tl 0 28 HS 109 2 w.1.size 0 a0 du (fun W hS=> (X.o.f.below hS).whole) g7 g8 (by rw[i2.o.1];exact aj) ?_;refine tk 1 (some 29) HS ?_;refine tk 2 (some 30) HS ?_;refine tk 3 (some 31) HS ?_;refine nm ?_;refine tl 4 32 HS 60 31 b2 (l7+i*25) sc o5 (fun W hS=>fun j u K=>ai hS _ _ _ (n6.o j u K)) j0 f7 (by rw[q0.o.1];exact ar) ?_;refine nm ?_
    refine sC 5 6 7 8 9 10 11 12 33 27 34 35 10 11 109 60 ⟨z,z,z,z,z,z,z,z⟩ ⟨z,z,z,z,z,z,z,z⟩ ⟨z,z,z,z,z,z,z,z⟩ ⟨z,z,z,z,z,z,z⟩ (by kernel_rfl) (by decide) ⟨by kernel_rfl,by kernel_rfl,by kernel_rfl,by kernel_rfl,by kernel_rfl,by kernel_rfl,by kernel_rfl,by kernel_rfl,by kernel_rfl,by kernel_rfl⟩ (by kernel_rfl) ⟨l4,l2,l6,aj,z⟩ ⟨p1,p0,p5,ar,z⟩ (fun d _ _ _ _ h=>by cases d<;>exact h) z (fun _ h=>h)
     (fun Wc Wd J F=>aG (fun c=>wd ok w C (.slice G i H) c∨Wc.1.size<=c) Wd N J/\(F.length=25/\∀v∈F,v.oneCell'=true)/\(N.CR=0->bX (Wc.1.size<=·) Wd F s3)) (fun _ _ _ _ h=>⟨h.1.cells,h.2.1⟩) (fun b W r6 hb hw hk=>?_) (fun bA bC J F Wc Wd W8 hA hC n8 hP f2 o9 d3 h6 g4 kA kC=>?_)
    .refine uh (vx:= .agg a0.toArray) (vy:= .agg sc.toArray) (by kernel_rfl) z (by rcases hb with rfl|⟨v,rfl⟩|⟨v,rfl⟩|⟨v,v2,rfl⟩<;>rfl) (by rcases hb with rfl|⟨v,rfl⟩|⟨v,rfl⟩|⟨v,v2,rfl⟩<;>rfl) (j3.o W hw (m5.o W hw)) fun e W2 hR=>?_;obtain⟨⟨J,F,rfl,hd,hl,hs⟩,q3⟩:=hR;exact⟨_,z,hk J F W2 ⟨hd,hl,hs⟩ q3⟩
    obtain⟨hd,k8,hs⟩:=hP;have i1:aG (wd ok w W8 (.slice G i H)) W8 N J:=(hd.tight.keep (w':=W8) fun c o u A K=>by
     have h9:=g4 c (by
      rcases A.1 with h|h
      .exact .inl h.1.2
      .exact .inr ⟨h,A.2⟩)
     rw[<-K];simp[FI,h9]).CQ fun c A=>⟨⟨by
     rcases A.1 with h|h
     .exact h.1.1
     .exact .inr (by have:=b7.o;have:=f2.size;omega),FJ A.2 h6⟩,by
     rcases A.1 with h|h
     .exact h.2
     .intro e;have:=n7.o c e;have:=f2.size;omega⟩
    have l5:N.CR=0->bX (fun c=>C.1.size<=c/\c<W8.1.size) W8 F s3:=fun h0=> ((hs h0).bound.keep (w':=W8) fun c o u A K=>by have h9:=g4 c (.inr A);rw[<-K];simp[FI,h9]).CQ fun c A=>⟨FU f2.size A.1,FJ A.2 h6⟩
    have e1:=O i1;have o8:=O l5;have f0:=O kA;have e6:=O kC;have a1:=O k8;have q9:=O d3;have a6:=O (X.o.below d3);have f3:=O (f6.o.below d3);have d4:=O (m4.o.below d3);have m3:=O (EQ hA hC);have e5:=O i1.cells;clear i1 l5 kA kC k8 hd hs d3 g4 f2 o9 h6 hA hC n8 X f6 m4 a5 m5 n6 j3 HS;simp only[hK,Gf,List.setIfInBounds_toArray,List.set_cons_zero,List.set_cons_succ];have q7:=a1.o.1;have p3:=O fun _:True=> (show us.length<=10000000 by have:=i7.o;have:=d5.o;omega);have p7:=O fun _:True=> (show acc.length<=10000000 by have:=d1.o;have:=d5.o;omega);have a8:(i:Int)+1<=1000:=by have:=d5.o;omega
    have k7:=IntWalk.wrap64_in ((i:Int)+1) (by omega);have j4:=O k7;clear k7 a8;by_cases g3:N.CR=0
    .go_wp2_with (first
      | ((with_reducible refine cp 36 (.load 109 _) ?_);refine ac g7 g8 aj z (.tmp 10) z bA J z f0 e5.o.1 ?_)
      | ((with_reducible refine cY (.store 109 _ _) ?_);refine af aj z (.tmp 2) (.tmp 36) z w.1.size J _ z z a6.o.f i2.o.1 e5.o ?_;intro W9 k9 c9;have E:=O (EQ k9 c9);clear k9 c9;have a3:=O (a6.o.Dc E.o.1 E.o.2);have a9:Hid (aG (wd ok w W9 (.slice G i H)) W9 N J):=O ((E.o.2.df (fun e=>by have:=e.1.1;have h:=b6 w.1.size;rcases this with Z|Z;exact absurd (h Z) (by omega);exact absurd Z (by omega)) e1.o).CQ fun c A=>⟨⟨A.1.1,by rw[E.o.2.size];exact A.1.2⟩,A.2⟩);have n0:=O (E.o.2.grow f3.o (by omega));have m8:=O (E.o.2.grow d4.o (by omega));have i4:=O (E.o.2.CV (by have:=m3.o;have:=b7.o;omega) e6.o);have o6:=O a3.o.lt;have m7:=O ((o8.o g3).keep (w':=W9) fun c o u A K=> (by rw[E.o.2.cell (by have:=A.1;have:=b7.o;omega)];exact K));have e4:=O (uO (v:= .slice G i H) m7.o n7.o b7.o);clear m7;clear E a6 d4 f3 e1 f0 e6)
      | ((with_reducible refine cp 38 (.load 60 _) ?_);refine ac j0 f7 ar z (.tmp 11) z bC F z i4 a1.o.1 ?_)
      | ((with_reducible refine cp 39 (.buildSlice _ _ _) ?_);refine cy z (.tmp 38) z e0 f4 e3 d9 e8 (by decide) (by decide) (.agg F.toArray) F z z a1.o.1 ?_;intro Wb kb bb sb;have KB:=O kb;have V:=O bb;clear kb bb sb;have p6:=O (m8.o.below V.o);have h8:=O (fn.keep (fun c o u _ K=>ai V.o c o u K) e4.o);have b4:=O (a3.o.below V.o);have g9:Hid (aG (wd ok w Wb (.slice G i H)) Wb N J):=O ((a9.o.below V.o).CQ fun c A=>⟨⟨A.1.1,FJ A.1.2 V.o.size⟩,A.2⟩);have i5:=O b4.o.lt;clear a3 a9 e4)
      | (at_builtin;refine bW fn z (.tmp 37) (.tmp 39) 44 z i0 z0 e0 f4 e3 d9 e8 (by decide) m6 (w.1.size+2) Wb (.slice G i H) acc z p6.o F s3 h8.o _ 60 KB.o z (p7.o trivial) i5.o ?_;intro gb p2 i3 d0 b5 a7 c8;have d6:=O d0;have b9:=O b5;have d2:=O (EQ a7 c8);clear d0 b5 a7 c8)
      |fail)
     go_roundg (S- (i+1));case measure=>omega
     case rel=>
      have q5:=d6.o.any;refine⟨i+1,N,J,(acc++[s3]).map fun _=> (),by omega,z,congrArg (Gr .i64) j4.o,by have:=d1.o;simp;omega,O (by simpa [d1.o]using q5),O fun _=>⟨?_,acc++[s3],by have:=d1.o;simp;omega,by simpa [d1.o]using d6.o,?_⟩,m2,O (b4.o.Dy b9.o),O ?_,n5⟩
      .have:=q4.o g3;have:=d5.o.1;omega
      .rw[<-o7.o];simp
      .refine(g9.o.keep (w':=i3) fun c o u A K=>?_).CQ fun c A=>⟨⟨A.1.1,FJ A.1.2 b9.o.size⟩,fun e=>?_⟩
       .rw[<-K];simp[FI,d2.o.1 c A.1.2 A.2]
       .have e2:gb=c:=by simpa [GF]using e
        subst e2;rcases d2.o.2 with h|h
        .exact A.2 h
        .have:=A.1.2;omega
    .go_wp2_with (first
      | ((with_reducible refine cp 36 (.load 109 _) ?_);refine ac g7 g8 aj z (.tmp 10) z bA J z f0 e5.o.1 ?_)
      | ((with_reducible refine cY (.store 109 _ _) ?_);refine af aj z (.tmp 2) (.tmp 36) z w.1.size J _ z z a6.o.f i2.o.1 e5.o ?_;intro W9 k9 c9;have E:=O (EQ k9 c9);clear k9 c9;have a3:=O (a6.o.Dc E.o.1 E.o.2);have a9:Hid (aG (wd ok w W9 (.slice G i H)) W9 N J):=O ((E.o.2.df (fun e=>by have:=e.1.1;have h:=b6 w.1.size;rcases this with Z|Z;exact absurd (h Z) (by omega);exact absurd Z (by omega)) e1.o).CQ fun c A=>⟨⟨A.1.1,by rw[E.o.2.size];exact A.1.2⟩,A.2⟩);have n0:=O (E.o.2.grow f3.o (by omega));have m8:=O (E.o.2.grow d4.o (by omega));have i4:=O (E.o.2.CV (by have:=m3.o;have:=b7.o;omega) e6.o);have o6:=O a3.o.lt;have e4:Hid (lY.L (fun c=>w.1.size+2<=c/\(Gd G i H).ownBlock≠some c) W9 F ()):=O a1.o;clear E a6 d4 f3 e1 f0 e6)
      | ((with_reducible refine cp 38 (.load 60 _) ?_);refine ac j0 f7 ar z (.tmp 11) z bC F z i4 a1.o.1 ?_)
      | ((with_reducible refine cp 39 (.buildSlice _ _ _) ?_);refine cy z (.tmp 38) z e0 f4 e3 d9 e8 (by decide) (by decide) (.agg F.toArray) F z z a1.o.1 ?_;intro Wb kb bb sb;have KB:=O kb;have V:=O bb;clear kb bb sb;have o0:=O (n0.o.below V.o);have h8:Hid (lY.L (fun c=>w.1.size+2<=c/\(Gd G i H).ownBlock≠some c) Wb F ()):=O a1.o;have b4:=O (a3.o.below V.o);have g9:Hid (aG (wd ok w Wb (.slice G i H)) Wb N J):=O ((a9.o.below V.o).CQ fun c A=>⟨⟨A.1.1,FJ A.1.2 V.o.size⟩,A.2⟩);have i5:=O b4.o.lt;clear a3 a9 e4)
      | (at_builtin;refine bW lY z (.tmp 37) (.tmp 39) 44 z i0 z0 e0 f4 e3 d9 e8 (by decide) m6 (w.1.size+2) Wb (.slice G i H) us z o0.o F () h8.o _ 60 KB.o z (p3.o trivial) i5.o ?_;intro gb p2 i3 d0 b5 a7 c8;have d6:=O d0;have b9:=O b5;have d2:=O (EQ a7 c8);clear d0 b5 a7 c8)
      |fail)
     go_roundg (S- (i+1));case measure=>omega
     case rel=>
      refine⟨i+1,N,J,us++[()],by omega,z,congrArg (Gr .i64) j4.o,by have:=i7.o;simp;omega,O (by simpa [i7.o]using d6.o),O fun h=>absurd h g3,m2,O (b4.o.Dy b9.o),O ?_,n5⟩
      .refine(g9.keep (w':=i3) fun c o u A K=>?_).CQ fun c A=>⟨⟨A.1.1,FJ A.1.2 b9.o.size⟩,fun e=>?_⟩
       .rw[<-K];simp[FI,d2.o.1 c A.1.2 A.2]
       .have e2:gb=c:=by simpa [GF]using e
        subst e2;rcases d2.2 with h|h
        .exact A.2 h
        .have:=A.1.2;omega
   .have hx:(DF.Dp l D).1=M:=by rw[<-e7.o,ep (by rw[a4.o];exact g1)]
    go_wp2;apply Q;exact nd b6 HB (O (Y.CQ fun c A=>A.1)) j9 hx (O fun h=>absurd (a4.symm.trans h) g1)
  .obtain rfl:i=S:=by omega
   have q2:¬ (i:Int)< (i:Int):=by omega
   have hx:(DF.Dp l D).1=M:=by rw[<-e7.o,<-HN.o,Hn,DF.Dp]
   go_wp2;apply Q;refine nd b6 HB (O (Y.CQ fun c A=>A.1)) j9 hx (O fun h=>?_);obtain⟨-,acc,h1,Z,h3⟩:=HG h;rw[<-HN.o,Hn,DF.Dp]at h3;have h4:acc=(DF.Dp l D).2:=by simpa using h3
   rw[<-h4];exact⟨h1.symm,p4,Z.Dp⟩
mutual
def St.sm:St->Prop
 | .mk _ _ _ _ _ x y body els _ _ _ _=>x.sm/\y.sm/\St.DO body/\St.DO els
def St.DO:List St->Prop
 | []=>True
 |s::r=>s.sm/\St.DO r
end
mutual
theorem uH {nm:ByteArray->Bool}:∀ (s:St) {d:Nat},jv nm s d=true->s.sm
 | .mk k l c s t x y body els id sl ot lo,d,h=>by
  unfold jv at h
  simp only[FG]at h
  obtain⟨-,-,-,-,h1,h2,-,-,h3,h4⟩:=h
  unfold St.sm
  refine⟨?_,?_,gK body h3,gK els h4⟩
  .split at h2
   .exact mI x h2
   .exact ul h2
  .split at h1
   .exact mI y h1
   .exact ul h1
theorem gK {nm:ByteArray->Bool}:∀ (r:List St) {d:Nat},bB nm r d=true->St.DO r
 | [],_,_=>by unfold St.DO;trivial
 |s::r,d,h=>by
  unfold bB at h
  rw[FG]at h
  unfold St.DO
  exact⟨uH s h.1,gK r h.2⟩
end
mutual
theorem wn:∀ (s:St),s.sm->Cb s
 | .mk k l c s t x y body els id sl ot lo,h=>by
  unfold St.sm at h
  exact fun ok D cs sc W hok hD hI h0 hS=>tc k l c s t x y body els id sl ot lo h.1 h.2.1 (iF body (ie body h.2.2.1)) (iF els (ie els h.2.2.2)) ok D cs sc W hok hD hI h0 hS
theorem ie:∀ (l:List St),St.DO l->∀s∈l,Cb s
 | [],_,s,hs=>by cases hs
 |y::r,h,s,hs=>by
  unfold St.DO at h
  by_cases e:s=y
  .rw[e]
   exact wn y h.1
  .exact ie r h.2 s ((FQ.1 hs).resolve_left e)
end
theorem sq(l:List St)(h:St.DO l):qR l:=iF l (ie l h)
section
variable {w W W':Fk} {cs:List Fr} {ok:Nat→Prop} {D:DF}
theorem aG.r0(h:aG ok w D cs):∃ (a:Option Addr) (cap:Nat),cs[0]? =some (.slice a D.P.vars.length cap)/\Ro (lg 2) ok w (.slice a D.P.vars.length cap) D.P.vars:=by obtain⟨H,A,J,C,G,n1,n2,n3,n4,F,rfl,g,E⟩:=h;obtain⟨a,cap,j,-⟩:=id g.vars;subst j;exact⟨a,cap,z,g.vars⟩
theorem aG.s0(h:aG ok w D cs){l:List Int}(H:Ro (lg 2) ok w v l):aG ok w {D with P:={D.P with vars:=l}} (cs.set 0 v):=by obtain⟨J,j,G,A,F,n1,n2,n3,n4,E,rfl,g,C⟩:=h;exact⟨v,j,G,A,F,n1,n2,n3,n4,E,z,⟨H,g.CW,g.CX,g.threads,g.nv,g.na,g.nm,g.nc,g.nh⟩,C⟩
theorem aG.r1(h:aG ok w D cs):∃ (a:Option Addr) (cap:Nat),cs[1]? =some (.slice a D.P.CW.length cap)/\Ro (lg 3) ok w (.slice a D.P.CW.length cap) D.P.CW:=by obtain⟨H,A,J,C,G,n1,n2,n3,n4,F,rfl,g,E⟩:=h;obtain⟨a,cap,j,-⟩:=id g.CW;subst j;exact⟨a,cap,z,g.CW⟩
theorem aG.s1(h:aG ok w D cs){l:List Int}(H:Ro (lg 3) ok w v l):aG ok w {D with P:={D.P with CW:=l}} (cs.set 1 v):=by obtain⟨F,J,G,j,E,n1,n2,n3,n4,C,rfl,g,A⟩:=h;exact⟨F,v,G,j,E,n1,n2,n3,n4,C,z,⟨g.vars,H,g.CX,g.threads,g.nv,g.na,g.nm,g.nc,g.nh⟩,A⟩
theorem aG.r4(h:aG ok w D cs):∃ (a:Option Addr) (cap:Nat),cs[4]? =some (.slice a D.P.CX.length cap)/\Ro (lg 3) ok w (.slice a D.P.CX.length cap) D.P.CX:=by obtain⟨H,A,J,C,G,n1,n2,n3,n4,F,rfl,g,E⟩:=h;obtain⟨a,cap,j,-⟩:=id g.CX;subst j;exact⟨a,cap,z,g.CX⟩
theorem aG.s4(h:aG ok w D cs){l:List Int}(H:Ro (lg 3) ok w v l):aG ok w {D with P:={D.P with CX:=l}} (cs.set 4 v):=by obtain⟨G,j,J,A,F,n1,n2,n3,n4,E,rfl,g,C⟩:=h;exact⟨G,j,v,A,F,n1,n2,n3,n4,E,z,⟨g.vars,g.CW,H,g.threads,g.nv,g.na,g.nm,g.nc,g.nh⟩,C⟩
theorem aG.r5(h:aG ok w D cs):∃ (a:Option Addr) (cap:Nat),cs[5]? =some (.slice a D.P.threads.length cap)/\Ro gh ok w (.slice a D.P.threads.length cap) D.P.threads:=by obtain⟨H,A,J,C,G,n1,n2,n3,n4,F,rfl,g,E⟩:=h;obtain⟨a,cap,j,-⟩:=id g.threads;subst j;exact⟨a,cap,z,g.threads⟩
theorem aG.s5(h:aG ok w D cs){l:List Th}(H:Ro gh ok w v l):aG ok w {D with P:={D.P with threads:=l}} (cs.set 5 v):=by obtain⟨F,j,G,J,E,n1,n2,n3,n4,C,rfl,g,A⟩:=h;exact⟨F,j,G,v,E,n1,n2,n3,n4,C,z,⟨g.vars,g.CW,g.CX,H,g.nv,g.na,g.nm,g.nc,g.nh⟩,A⟩
theorem aG.r8(h:aG ok w D cs):∃ (a:Option Addr) (cap:Nat),cs[8]? =some (.slice a D.P.nv.length cap)/\Ro fl ok w (.slice a D.P.nv.length cap) D.P.nv:=by obtain⟨H,A,J,C,G,n1,n2,n3,n4,F,rfl,g,E⟩:=h;obtain⟨a,cap,j,-⟩:=id g.nv;subst j;exact⟨a,cap,z,g.nv⟩
theorem aG.s8(h:aG ok w D cs){l:List ByteArray}(H:Ro fl ok w v l):aG ok w {D with P:={D.P with nv:=l}} (cs.set 8 v):=by obtain⟨F,j,G,A,J,n1,n2,n3,n4,E,rfl,g,C⟩:=h;exact⟨F,j,G,A,v,n1,n2,n3,n4,E,z,⟨g.vars,g.CW,g.CX,g.threads,H,g.na,g.nm,g.nc,g.nh⟩,C⟩
theorem aG.r9(h:aG ok w D cs):∃ (a:Option Addr) (cap:Nat),cs[9]? =some (.slice a D.P.na.length cap)/\Ro fl ok w (.slice a D.P.na.length cap) D.P.na:=by obtain⟨H,A,J,C,G,n1,n2,n3,n4,F,rfl,g,E⟩:=h;obtain⟨a,cap,j,-⟩:=id g.na;subst j;exact⟨a,cap,z,g.na⟩
theorem aG.s9(h:aG ok w D cs){l:List ByteArray}(J:Ro fl ok w v l):aG ok w {D with P:={D.P with na:=l}} (cs.set 9 v):=by obtain⟨G,j,H,A,F,n1,n2,n3,n4,E,rfl,g,C⟩:=h;exact⟨G,j,H,A,F,v,n2,n3,n4,E,z,⟨g.vars,g.CW,g.CX,g.threads,g.nv,J,g.nm,g.nc,g.nh⟩,C⟩
theorem aG.Ft(h:aG ok w D cs):∃ (a:Option Addr) (cap:Nat),cs[10]? =some (.slice a D.P.nm.length cap)/\Ro fl ok w (.slice a D.P.nm.length cap) D.P.nm:=by obtain⟨H,A,J,C,G,n1,n2,n3,n4,F,rfl,g,E⟩:=h;obtain⟨a,cap,j,-⟩:=id g.nm;subst j;exact⟨a,cap,z,g.nm⟩
theorem aG.Fz(h:aG ok w D cs){l:List ByteArray}(J:Ro fl ok w v l):aG ok w {D with P:={D.P with nm:=l}} (cs.set 10 v):=by obtain⟨G,j,H,A,F,n1,n2,n3,n4,E,rfl,g,C⟩:=h;exact⟨G,j,H,A,F,n1,v,n3,n4,E,z,⟨g.vars,g.CW,g.CX,g.threads,g.nv,g.na,J,g.nc,g.nh⟩,C⟩
theorem aG.FA(h:aG ok w D cs):∃ (a:Option Addr) (cap:Nat),cs[11]? =some (.slice a D.P.nc.length cap)/\Ro fl ok w (.slice a D.P.nc.length cap) D.P.nc:=by obtain⟨H,A,J,C,G,n1,n2,n3,n4,F,rfl,g,E⟩:=h;obtain⟨a,cap,j,-⟩:=id g.nc;subst j;exact⟨a,cap,z,g.nc⟩
theorem aG.Fs(h:aG ok w D cs){l:List ByteArray}(J:Ro fl ok w v l):aG ok w {D with P:={D.P with nc:=l}} (cs.set 11 v):=by obtain⟨G,j,H,A,F,n1,n2,n3,n4,E,rfl,g,C⟩:=h;exact⟨G,j,H,A,F,n1,n2,v,n4,E,z,⟨g.vars,g.CW,g.CX,g.threads,g.nv,g.na,g.nm,J,g.nh⟩,C⟩
theorem aG.Fy(h:aG ok w D cs):∃ (a:Option Addr) (cap:Nat),cs[12]? =some (.slice a D.P.nh.length cap)/\Ro fl ok w (.slice a D.P.nh.length cap) D.P.nh:=by obtain⟨H,A,J,C,G,n1,n2,n3,n4,F,rfl,g,E⟩:=h;obtain⟨a,cap,j,-⟩:=id g.nh;subst j;exact⟨a,cap,z,g.nh⟩
theorem aG.Fv(h:aG ok w D cs){l:List ByteArray}(J:Ro fl ok w v l):aG ok w {D with P:={D.P with nh:=l}} (cs.set 12 v):=by obtain⟨G,j,H,A,F,n1,n2,n3,n4,E,rfl,g,C⟩:=h;exact⟨G,j,H,A,F,n1,n2,n3,v,E,z,⟨g.vars,g.CW,g.CX,g.threads,g.nv,g.na,g.nm,g.nc,J⟩,C⟩
theorem aG.s2(h:aG ok w D cs)(n:Nat):aG ok w {D with P:={D.P with CT:=n}} (cs.set 2 (I n)):=by obtain⟨G,j,H,A,F,n1,n2,n3,n4,E,rfl,g,C⟩:=h;exact⟨G,j,H,A,F,n1,n2,n3,n4,E,z,⟨g.vars,g.CW,g.CX,g.threads,g.nv,g.na,g.nm,g.nc,g.nh⟩,C⟩
theorem aG.s3(h:aG ok w D cs)(n:Nat):aG ok w {D with P:={D.P with conds:=n}} (cs.set 3 (I n)):=by obtain⟨G,j,H,A,F,n1,n2,n3,n4,E,rfl,g,C⟩:=h;exact⟨G,j,H,A,F,n1,n2,n3,n4,E,z,⟨g.vars,g.CW,g.CX,g.threads,g.nv,g.na,g.nm,g.nc,g.nh⟩,C⟩
theorem aG.Ff(h:aG ok w D cs):∃ (a:Option Addr) (cap:Nat),cs[13]? =some (.slice a D.names.length cap)/\Ro ma ok w (.slice a D.names.length cap) D.names:=by obtain⟨-,-,-,A,j,g⟩:=h.c7;obtain⟨a,cap,rfl,-⟩:=id g;exact⟨a,cap,j,g⟩
theorem aG.Fw(h:aG ok w D cs)(n:Int):aG ok w {D with cells:=n} (cs.set 14 (I n)):=by obtain⟨G,g,H,j,E,n1,n2,n3,n4,C,rfl,F,A⟩:=h;exact⟨G,g,H,j,E,n1,n2,n3,n4,C,z,F,A⟩
theorem aG.ints(h:aG ok w D cs):cs[2]? =some (I D.P.CT)/\cs[3]? =some (I D.P.conds)/\cs[14]? =some (I D.cells):=by obtain⟨G,g,H,j,E,n1,n2,n3,n4,C,rfl,F,A⟩:=h;exact⟨z,z,z⟩
structure Dq (w:Fk) (cs dc:List Fr) (W:Fk):Prop where
 b:FM w.1.size w W
 f:ak W w.1.size 109 cs
 d:ak W (w.1.size+1) 46 dc
 z:ak W (w.1.size+1+1) 109 nx
def jw(ok:Nat->Prop)(w W:Fk)(c:Nat):Prop:=(ok c∨w.1.size+3<=c)/\c<W.1.size
theorem Dq.lt(h:Dq w cs l2 W):w.1.size+3<=W.1.size:=by have:=h.z.lt;omega
theorem Dq.below(h:Dq w cs l2 W)(g:bL W W'):Dq w cs l2 W':=⟨h.b.trans (g.mono h.b.size),h.f.below g,h.d.below g,h.z.below g⟩
theorem Dq.Dc(h:Dq w cs l2 W)(j:ak W' w.1.size 109 l3)(g:Ch w.1.size W W'):Dq w l3 l2 W':=⟨g.below rl h.b,j,g.CV (by omega) h.d,g.CV (by omega) h.z⟩
theorem cD(h:aG (jw ok w W) W D cs)(g:bL W W'):aG (jw ok w W') W' D cs:=(h.below g).CQ fun _ j=>⟨j.1,FJ j.2 g.size⟩
theorem dr(A:∀c,ok c->c<w.1.size)(h:aG (jw ok w W) W D cs)(g:Ch b W W')(E:w.1.size<=b)(C:b<w.1.size+3):aG (jw ok w W') W' D cs:=(g.df (fun e=>by
 rcases e.1 with e|e
 .have:=A _ e;omega
 .omega) h).CQ fun c j=>⟨j.1,by rw[g.size];exact j.2⟩
end
def sr(ok:Nat->Prop)(w:Fk)(R:DF)(e:GP)(w':Fk):Prop:=(∃ds,e= .returned (.agg ds.toArray)/\aG (fun c=>ok c∨w.1.size<=c) w' R ds)/\FM w.1.size w w'
theorem fr{ok:Nat->Prop}{cs:List Fr}(A:∀c,ok c->c<w.1.size)(g:Dq w cs l3 W)(hd:aG (jw ok w W) W D l2)(c7:Ch (w.1.size+1+1) W V):sr ok w D (.returned (.agg l2.toArray)) V:=by
 refine⟨⟨l2,z,(c7.df (fun e=>?_) hd).CQ fun c j=>?_⟩,c7.below (by omega) g.b⟩
 .rcases e.1 with e|e
  .have:=A _ e;omega
  .omega
 .rcases j.1 with h|h
  .exact .inl h
  .exact .inr (by omega)
theorem yz:(prog.info? 2).map (fun i=> (i.zero.map (fun z=>z.cells.size),i.size,decide (i.bytes<=1024)))=some (some 1,1,true):=by kernel_rfl
theorem sM:(prog.info? 3).map (fun i=> (i.zero.map (fun z=>z.cells.size),i.size,decide (i.bytes<=1024)))=some (some 1,1,true):=by kernel_rfl
theorem kC:(prog.info? 9).map (fun i=> (i.zero.map (fun z=>z.cells.size),i.size,decide (i.bytes<=1024)))=some (some 1,1,true):=by kernel_rfl
theorem sJ:(prog.info? 71).map (fun i=> (i.zero.map (fun z=>z.cells.size),i.size,decide (i.bytes<=1024)))=some (some 3,3,true):=by kernel_rfl
structure Cm (D:DF):Prop where
 names:D.names.length<=64
 lens:D.P.vars.length<=64/\D.P.CW.length<=64/\D.P.CX.length<=64/\D.P.threads.length<=64/\D.P.nv.length<=64/\D.P.na.length<=64/\D.P.nm.length<=64/\D.P.nc.length<=64/\D.P.nh.length<=64/\D.P.CT<=64/\D.P.conds<=64
 cells:0<=D.cells/\D.cells<=256
 body:∀t∈D.P.threads,t.body=[]
 zero:D.locals=0/\D.CY=0/\D.P.stmts=0
theorem fC{ok:Nat->Prop}{cs:List Fr}{k l c:Int}{num:Int}{body:List St}{bv:Fr}(a0:∀c,ok c->c<w.1.size)(hk:1<=k)(hN:D.names.length<=64)(j:Hid (Dq w cs (dy k l c s6 num bv) W))(M:Hid (aG (jw ok w W) W D cs)){R:DF}(HR:Hid (R=D.Eb ⟨k,l,c,s6,num,body⟩ n))(hU:l2.length=229:=by rfl):
  FR prog (Jp 4 (f39.body.getD .skip)) (Gb prog f39 (sr ok w R)) ⟨(v0::v1::Pt w.1.size::Pt (w.1.size+1)::Pt (w.1.size+1+1)::I n::l2).toArray,[]⟩ W:=by
 revert l2;apply aN;iterate 229 intro _
 change FR _ _ _ _ _;obtain⟨du,V,U⟩:=cd;have e2:prog.follows .mixedOrders=true:=by kernel_rfl
 have HL:=O M.o.cells;have a7:((k.toNat:Nat):Int)=k:=by omega
 have d4:=O a7;obtain⟨-,-,-,vn,a5,b4⟩:=M.o.c7;obtain⟨va,e8,rfl,-⟩:=id b4;have c13:=(j.o.f.cell 13).trans a5;have q0:W.cell? ⟨w.1.size+1,0,none⟩=some (I k):=by rw[j.o.d.cell];rfl
 have q1:W.cell? ⟨w.1.size+1,1,none⟩=some (I l):=by rw[j.o.d.cell];rfl
 have q2:W.cell? ⟨w.1.size+1,2,none⟩=some (I c):=by rw[j.o.d.cell];rfl
 have e4:=O hN;clear a7 a5 b4 hN;obtain⟨Z,a2⟩:=eX (D.names.length);rw[a2]at c13;have a8:=O a2;clear a2;conv in (Jp _ _)=>whnf
 by_cases c8:64<=Z
 .have e5:(64:Int)<=(Z:Int):=by omega
  have a3:Hid (R=D.DA 134 (l,c)):=O (by rw[HR.o];unfold DF.Eb;rw[aD (by rw[a8.o];exact c8)]);have hf:=bP D _ 134 (l,c) cs W M.o;go_wp2_with (first| (with_reducible refine l1 218 109 ?_;refine ac V U aj z (.tmp 2) z w.1.size cs z (O j.o.f) HL.o.1 ?_));refine hf.mono ?_;clear hf;rintro e g ⟨⟨es,rfl,hd⟩,H⟩;have c9:=O (j.o.below H);have e6:Hid (aG (jw ok w g) g _ es):=O (hd.CQ fun c G=>⟨G.1,FJ G.2 H.size⟩);have d1:=O hd.cells;clear hd H;go_wp2_with (first| (with_reducible refine s0 109 ?_;refine af aj z (.tmp 4) (.tmp 221) z (w.1.size+1+1) es _ z z c9.o.z z d1.o ?_;intro W7 S c7;have J:=O (EQ S c7);clear S c7));rw[a3.o];refine aC V U aj J.o.1 d1.o.1 z z z ?_;exact fr a0 c9.o e6.o J.o.2
 .have e5:¬ (64:Int)<=(Z:Int):=by omega
  have a3:Hid (R={D with names:=D.names++[⟨s6,k.toNat,n⟩]}):=O (by rw[HR.o];unfold DF.Eb;rw[am (by rw[a8.o];exact c8)]);go_wp2_with fail;clear c13 q0 q1 q2;obtain⟨g,Q⟩:=eX (W.drew);have C:Hid (Dq w cs _ g):=O (by rw[<-Q];exact j.o.below (FB _ W).drew);have Y:Hid (aG (jw ok w g) g D cs):=O (by rw[<-Q];exact cD M.o (FB _ W).drew);obtain⟨f0,e9,b8,b9⟩:=aG.Ff Y.o;have b7:=O b9;have d7:=O b8;have d8:=O Y.o.cells;obtain⟨i1,z1,e0,e1,d5,d9,d3⟩:=bJ sj;have e3:prog.underlying 107=some (.slice ma.ty):=by kernel_rfl
  clear b8 b9 j M;refine al [12] (fun W=>bL g W) e2 ?_;rw[Q];clear Q;have K:Hid (bL g g):=O (FB _ g);refine fa 0 ?_;refine fK _ 1 (fun F A=> ((C.o.f.below A).cell 13).trans d7.o) ?_;refine fa 3 ?_;refine tf (fun F=>F.cell? ⟨w.1.size+1,3,none⟩=some (.string s6)) 4 (some 226) K (fun F A=>by rw[(C.o.d.below A).cell];rfl) ?_;refine nm ?_;refine fa 5 ?_;refine tf (fun F=>F.cell? ⟨w.1.size+1,0,none⟩=some (.int .i64 k)) 6 (some 228) K (fun F A=>by rw[(C.o.d.below A).cell];rfl) ?_;refine tk 7 (some 229) K ?_;refine tk 8 (some 230) K ?_;refine nm ?_
  refine dS (E:=ma) 2 9 10 224 231 232 107 (.const (.slice none 0 0)) (.tmp 223) (.tmp 230) z z z ⟨z,z,z⟩ ⟨z,z,z⟩ (by kernel_rfl) (by kernel_rfl) (by kernel_rfl) (by kernel_rfl) (by decide) z z z (by kernel_rfl) (by decide) ⟨223,z,by decide⟩ ⟨230,z,by decide⟩ (fun _=>z) e3 e0 e1 d5 d9 (by decide) (by decide) d3 z b7.o (fun _ _ _ _ _ h=>h) (by have:=e4.o;omega) (.agg #[.string s6,I k,I n]) (Nm.mk s6 k.toNat n).cells ⟨s6,k.toNat,n⟩ z (by unfold Nm.cells;rw[d4.o];rfl) (fun _ _=>z) (fun _ h=>h) (fun e7 v2 g1 b5 F hG H=>?_);have d0:=O hG;have N:=O H;clear hG H;refine nm ?_;refine fa 11 ?_;refine nm ?_;refine oD 12 fun d2 hK=>?_
  refine aA (by kernel_rfl) (.tmp 233) (.tmp 232) z w.1.size 13 109 (.slice (some ⟨g1,0,none⟩) (D.names.length+1) b5) cs z z z z (C.o.f.below N.o) (by rw[d8.o.1];decide) ?_;intro U1 ku cu;have X:=O (EQ ku cu);clear ku cu;refine hK _ _ (fun h=>by cases h) ?_;clear hK d2;simp only[Gf];refine dn ?_;have a9:=aG.tight (ok:=fun c=>ok c∨w.1.size+3<=c) (aG.Eg (aG.CQ (fun c G=>G.1) (Y.o.below N.o)) (Ro.CQ (fun c G=> .inr (by have h1:g.1.size<=c:=G;have:=C.o.lt;omega)) (Ro.of d0.o)));have a4:=O ((C.o.below N.o).Dc X.o.1 X.o.2);have a6:=O (dr a0 a9 X.o.2 rl (by omega));clear a9 X d0 N C Y b7;generalize cs.set 13 (.slice (some ⟨g1,0,none⟩) (D.names.length+1) b5)=b6 at *;have a1:=O a6.o.cells
  go_wp2_with (first| (with_reducible refine l1 234 109 ?_;refine ac V U aj z (.tmp 2) z w.1.size b6 z (O a4.o.f) a1.o.1 ?_)| (with_reducible refine s0 109 ?_;refine af aj z (.tmp 4) (.tmp 234) z (w.1.size+1+1) b6 _ z z a4.o.z z a1.o ?_;intro W7 S c7;have J:=O (EQ S c7);clear S c7));rw[a3.o];refine aC V U aj J.o.1 a1.o.1 z z z ?_;exact fr a0 a4 a6 J.o.2
theorem ta(d:De)(r3:1<=d.kind)(q9:d.kind<=6)(r2:d.kind=1->-2147483648<=d.num/\d.num<=2147483647)(ok:Nat->Prop)(D:DF)(cs ec:List Fr)(w:Fk)(J:∀c,ok c->c<w.1.size)(hD:aG ok w D cs)(hI:Cm D)(hE:fS (fun _=>True) w ec d):Calls prog 39 #[.agg cs.toArray,.agg ec.toArray] w (sr ok w (D.dec d)):=by
 obtain⟨du,a6,a5⟩:=cd;have a9:prog.follows .mixedOrders=true:=by kernel_rfl
 obtain⟨i9,z9,l7,m0,v3⟩:=em;obtain⟨k,l,c,C,num,body⟩:=d;obtain⟨ab,n5,m1,-,-⟩:=hE;simp only at r3 q9 r2 m1;have v9:ec=dy k l c C num (.slice ab body.length n5):=m1;subst v9;obtain⟨bv,m9⟩:∃v,Gd ab body.length n5=v:=⟨_,z⟩;rw[m9];have N:=O hI;have HL:=O hD.cells;have K:=O hD;obtain⟨R,HR⟩:∃R,D.dec ⟨k,l,c,C,num,body⟩=R:=⟨_,z⟩;rw[HR];go_in;refine wk fun KK a3=>?_;go_wp2_with (first
  | (with_reducible refine cp 2 (.box 109 _) ?_;refine aJ z (.tmp 0) z cs z w.1.size z ?_;intro G k1 b1 p7;have K1:=O k1;have B1:=O b1;clear k1 b1)
  | (with_reducible refine cp 3 (.box 46 _) ?_;refine aJ z (.tmp 1) z (dy k l c C num bv) z (w.1.size+1) p7 ?_;intro W2 k2 b2 s2;have K2:=O k2;have B2:=O b2;clear k2 b2)
  | (with_reducible refine cp 4 (.alloc 109) ?_;refine ag l7 m0 v3 z z (w.1.size+1+1) s2 ?_;intro W3 k3 b3 s3;have K3:=O k3;have B3:=O b3;clear k3 b3)
 )
 refine a3.o _ _ ?_;have m3:=B1.o.trans (B2.o.mono B1.o.size);have i1:=m3.trans (B3.o.mono m3.size);have j0:Hid (Dq w cs (dy k l c C num bv) W3):=O ⟨i1,(K1.o.below B2.o).below B3.o,K2.o.below B3.o,K3.o⟩;have l5:Hid (aG (jw ok w W3) W3 D cs):=O ((K.o.below i1).CQ fun c j=>⟨.inl j,FJ (J c j) i1.size⟩);refine wk fun KK a3=>?_;have q3:W3.cell? ⟨w.1.size+1,3,none⟩=some (.string C):=by rw[j0.o.d.cell];rfl
 have l8:=jA D C (jw ok w W3) cs W3 l5.o;obtain⟨oi,m2⟩:=eX (D.at C);rw[m2]at l8;go_wp2_with (first| (with_reducible refine l0 109 ?_;refine ac a6 a5 aj z (.tmp 2) z w.1.size cs z (O j0.o.f) HL.o.1 ?_));refine l8.mono ?_;rintro e W ⟨rfl,g⟩;have A:=O (j0.o.below g);have K:=O (cD l5.o g);have q1:W.cell? ⟨w.1.size+1,1,none⟩=some (I l):=by rw[A.o.d.cell];rfl
 have q2:W.cell? ⟨w.1.size+1,2,none⟩=some (I c):=by rw[A.o.d.cell];rfl
 rcases oi with _|i;rotate_left
 .have b5:Hid (R=D.DA 130 (l,c)):=O (by rw[<-HR];unfold DF.dec;rw[m2];rfl)
  simp only[qN];have w9:(0:Int)<=(i:Int):=by omega
  generalize (i:Int)=iv at w9 ⊢;have hf:=bP D _ 130 (l,c) cs W K.o;go_wp2_with (first| (with_reducible refine l1 11 109 ?_;refine ac a6 a5 aj z (.tmp 2) z w.1.size cs z (O A.o.f) HL.o.1 ?_));refine hf.mono ?_;rintro e Y ⟨⟨es,rfl,hd⟩,g⟩;have a2:=O (A.o.below g);have a7:Hid (aG (jw ok w Y) Y _ es):=O (hd.CQ fun c j=>⟨j.1,FJ j.2 g.size⟩);have Z:=O hd.cells;go_wp2_with (first| (with_reducible refine s0 109 ?_;refine af aj z (.tmp 4) (.tmp 14) z (w.1.size+1+1) es _ z z a2.o.z z Z.o ?_;intro W7 k7 c7;have U:=O (EQ k7 c7);clear k7 c7));rw[b5.o];refine aC a6 a5 aj U.o.1 Z.o.1 z z z ?_;exact fr J a2.o a7.o U.o.2
 simp only[qN];have b7:Hid (∀E,(if k=1 then (if num< -2147483648∨2147483647<num then D.DA 134 (l,c) else ({D with P:={D.P with vars:=D.P.vars++[num],nv:=D.P.nv++[C]}}:DF).Eb ⟨k,l,c,C,num,body⟩ D.P.vars.length)
  else if k=2 then (if num<1∨256<num∨256<D.cells+num then D.DA 134 (l,c) else ({D with cells:=D.cells+num,P:={D.P with CW:=D.P.CW++[num],na:=D.P.na++[C]}}:DF).Eb ⟨k,l,c,C,num,body⟩ D.P.CW.length)
  else if k=3 then ({D with P:={D.P with CT:=D.P.CT+1,nm:=D.P.nm++[C]}}:DF).Eb ⟨k,l,c,C,num,body⟩ D.P.CT
  else if k=4 then ({D with P:={D.P with conds:=D.P.conds+1,nc:=D.P.nc++[C]}}:DF).Eb ⟨k,l,c,C,num,body⟩ D.P.conds
  else if k=5 then (if num<1∨16<num then D.DA 134 (l,c) else ({D with P:={D.P with CX:=D.P.CX++[num],nh:=D.P.nh++[C]}}:DF).Eb ⟨k,l,c,C,num,body⟩ D.P.CX.length)
  else if k=6 then ({D with P:={D.P with threads:=D.P.threads++[⟨C,0,[]⟩]}}:DF).Eb ⟨k,l,c,C,num,body⟩ D.P.threads.length
  else D.Eb ⟨k,l,c,C,num,body⟩ 0)=E->R=E):=O fun E hE=>by rw[<-HR,<-hE];unfold DF.dec;rw[m2];rfl
 go_wp2_with fail;refine a3.o _ _ ?_;refine wk fun KK a3=>?_;go_wp2_with fail;refine a3.o _ _ ?_;refine wk fun KK a3=>?_;have q0:W.cell? ⟨w.1.size+1,0,none⟩=some (I k):=by rw[A.o.d.cell];rfl
 have q4:W.cell? ⟨w.1.size+1,4,none⟩=some (I num):=by rw[A.o.d.cell];rfl
 have y8:k=1∨k=2∨k=3∨k=4∨k=5∨k=6:=by omega
 rcases y8 with rfl|rfl|rfl|rfl|rfl|rfl
 .have hn:=r2 z;obtain⟨va,f3,F,-⟩:=K.o.r0;have c0:=(A.o.f.cell 0).trans F;have X:¬num< -2147483648:=by omega
  have h2:¬2147483647<num:=by omega
  go_wp2_with fail;obtain⟨V2,f9⟩:=eX (W.drew);have d7:Hid (Dq w cs _ V2):=O (by rw[<-f9];exact A.o.below (FB _ W).drew);have j9:Hid (aG (jw ok w V2) V2 D cs):=O (by rw[<-f9];exact cD K.o (FB _ W).drew);obtain⟨F7,E1,D3,m5⟩:=aG.r0 j9.o;have v0:=O j9.o.cells;obtain⟨i2,z2,D0,t3,z0,w4,t5⟩:=bJ yz;have w1:prog.underlying 23=some (.slice (lg 2).ty):=by kernel_rfl
  refine al [10] (fun W=>bL V2 W) a9 ?_;rw[f9];have f1:Hid (bL V2 V2):=O (FB _ V2);refine tk 0 (some 35) f1 ?_;refine tk 1 (some 36) f1 ?_;refine tf _ 2 (some 37) f1 (fun G H=> ((d7.o.f.below H).cell 0).trans D3) ?_;refine tk 4 (some 39) f1 ?_;refine nm ?_;refine tf (fun G=>G.cell? ⟨w.1.size+1,4,none⟩=some (.int .i64 num)) 5 (some 40) f1 (fun G H=>by rw[(d7.o.d.below H).cell];rfl) ?_;refine nm ?_
  refine dS (E:=(lg 2)) 3 6 7 38 41 42 23 (.const (.slice none 0 0)) (.tmp 37) (.tmp 40) z z z ⟨z,z,z⟩ ⟨z,z,z⟩ (by kernel_rfl) (by kernel_rfl) (by kernel_rfl) (by kernel_rfl) (by decide) z z z (by kernel_rfl) (by decide) ⟨37,z,by decide⟩ ⟨40,z,by decide⟩ (fun _=>z) w1 D0 t3 z0 w4 (by decide) (by decide) t5 z m5 (fun _ _ _ _ _ h=>h) (by have:=N.o.lens;show D.P.vars.length<=1000000;omega) (I num) [I num] num z z (fun _ _=>z) (fun _ h=>h) (fun v1 v2 g2 m7 W2 t2 d8=>?_);refine nm ?_;refine tk 8 (some 43) d8 ?_;refine tk 9 (some 44) d8 ?_;refine nm ?_;refine oD 10 fun a1 S=>?_
  refine aA (by kernel_rfl) (.tmp 44) (.tmp 42) z w.1.size 0 109 (.slice (some ⟨g2,0,none⟩) ((D:DF).P.vars.length+1) m7) cs z z z z (d7.o.f.below d8) (by rw[v0.o.1];decide) ?_;intro U2 M V;have l2:=O (EQ M V);refine S _ _ (fun h=>by cases h) ?_;simp only[Gf];refine dn ?_;have Q:=aG.tight (ok:=fun c=>ok c∨w.1.size+3<=c) (aG.s0 (aG.CQ (fun c j=>j.1) (j9.o.below d8)) (Ro.CQ (fun c j=> .inr (by have X:V2.1.size<=c:=j;have:=d7.o.lt;omega)) (Ro.of t2)));have p4:=O ((d7.o.below d8).Dc l2.o.1 l2.o.2);have n0:=O (dr J Q l2.o.2 rl (by omega));generalize cs.set 0 (.slice (some ⟨g2,0,none⟩) ((D:DF).P.vars.length+1) m7)=f4 at *;go_wp2_with fail;obtain⟨V3,l3⟩:=eX (U2.drew)
  have e9:Hid (Dq w f4 _ V3):=O (by rw[<-l3];exact p4.o.below (FB _ U2).drew);have j1:Hid (aG (jw ok w V3) V3 ({D with P:={(D:DF).P with vars:=(D:DF).P.vars++[num]}}:DF) f4):=O (by rw[<-l3];exact cD n0.o (FB _ U2).drew);obtain⟨D7,D8,B5,s6⟩:=aG.r8 j1.o;have A8:=O j1.o.cells;obtain⟨i3,z3,u2,v8,w7,x8,C4⟩:=bJ kC;have x6:prog.underlying 26=some (.slice fl.ty):=by kernel_rfl
  refine al [12] (fun W=>bL V3 W) a9 ?_;rw[l3];have e5:Hid (bL V3 V3):=O (FB _ V3);refine tk 0 (some 45) e5 ?_;refine tk 1 (some 46) e5 ?_;refine tk 2 (some 47) e5 ?_;refine tf _ 3 (some 48) e5 (fun G H=> ((e9.o.f.below H).cell 8).trans B5) ?_;refine nm ?_;refine tk 5 (some 50) e5 ?_;refine tf (fun G=>G.cell? ⟨w.1.size+1,3,none⟩=some (.string C)) 6 (some 51) e5 (fun G H=>by rw[(e9.o.d.below H).cell];rfl) ?_;refine nm ?_
  refine dS (E:=fl) 4 7 8 49 52 53 26 (.const (.slice none 0 0)) (.tmp 48) (.tmp 51) z z z ⟨z,z,z⟩ ⟨z,z,z⟩ (by kernel_rfl) (by kernel_rfl) (by kernel_rfl) (by kernel_rfl) (by decide) z z z (by kernel_rfl) (by decide) ⟨48,z,by decide⟩ ⟨51,z,by decide⟩ (fun _=>z) x6 u2 v8 w7 x8 (by decide) (by decide) C4 z s6 (fun _ _ _ _ _ h=>h) (by have:=N.o.lens;show D.P.nv.length<=1000000;omega) (.string C) [.string C] C z z (fun _ _=>z) (fun _ h=>h) (fun v1 v2 g3 p6 W3 o5 c8=>?_);refine nm ?_;refine tk 9 (some 54) c8 ?_;refine tk 10 (some 55) c8 ?_;refine tk 11 (some 56) c8 ?_;refine nm ?_;refine oD 12 fun a1 S=>?_
  refine aA (by kernel_rfl) (.tmp 56) (.tmp 53) z w.1.size 8 109 (.slice (some ⟨g3,0,none⟩) ((D:DF).P.nv.length+1) p6) f4 z z z z (e9.o.f.below c8) (by rw[A8.o.1];decide) ?_;intro U3 M V;have k8:=O (EQ M V);refine S _ _ (fun h=>by cases h) ?_;simp only[Gf];refine dn ?_;have Q:=aG.tight (ok:=fun c=>ok c∨w.1.size+3<=c) (aG.s8 (aG.CQ (fun c j=>j.1) (j1.o.below c8)) (Ro.CQ (fun c j=> .inr (by have X:V3.1.size<=c:=j;have:=e9.o.lt;omega)) (Ro.of o5)));have w8:=O ((e9.o.below c8).Dc k8.o.1 k8.o.2);have u8:=O (dr J Q k8.o.2 rl (by omega));generalize f4.set 8 (.slice (some ⟨g3,0,none⟩) ((D:DF).P.nv.length+1) p6)=F8 at *;go_wp2_with fail;refine a3.o _ _ ?_
  exact fC J (by decide) (by exact N.o.names) w8 u8 (O (b7.o _ (by show (if num< -2147483648∨2147483647<num then _ else _)=_;exact am (by omega))))
 .by_cases g:num<1∨256<num∨256<D.cells+num
  .have b5:Hid (R=D.DA 134 (l,c)):=O (b7.o _ (by show (if num<1∨256<num∨256<D.cells+num then _ else _)=_;exact aD g));obtain⟨va,f3,F,-⟩:=K.o.r1;have c1:=(A.o.f.cell 1).trans F;have c14:=(A.o.f.cell 14).trans K.o.ints.2.2;have m6:=N.o.cells;by_cases X:num<1
   .skip;have hf:=bP D _ 134 (l,c) cs W K.o;go_wp2_with (first| (with_reducible refine l1 79 109 ?_;refine ac a6 a5 aj z (.tmp 2) z w.1.size cs z (O A.o.f) HL.o.1 ?_));refine hf.mono ?_;rintro e Y ⟨⟨es,rfl,hd⟩,g⟩;have a2:=O (A.o.below g);have a7:Hid (aG (jw ok w Y) Y _ es):=O (hd.CQ fun c j=>⟨j.1,FJ j.2 g.size⟩);have Z:=O hd.cells;go_wp2_with (first| (with_reducible refine s0 109 ?_;refine af aj z (.tmp 4) (.tmp 82) z (w.1.size+1+1) es _ z z a2.o.z z Z.o ?_;intro W7 k7 c7;have U:=O (EQ k7 c7);clear k7 c7));rw[b5.o];refine aC a6 a5 aj U.o.1 Z.o.1 z z z ?_;exact fr J a2.o a7.o U.o.2
   by_cases h2:256<num
   .skip;have hf:=bP D _ 134 (l,c) cs W K.o;go_wp2_with (first| (with_reducible refine l1 79 109 ?_;refine ac a6 a5 aj z (.tmp 2) z w.1.size cs z (O A.o.f) HL.o.1 ?_));refine hf.mono ?_;rintro e Y ⟨⟨es,rfl,hd⟩,g⟩;have a2:=O (A.o.below g);have a7:Hid (aG (jw ok w Y) Y _ es):=O (hd.CQ fun c j=>⟨j.1,FJ j.2 g.size⟩);have Z:=O hd.cells;go_wp2_with (first| (with_reducible refine s0 109 ?_;refine af aj z (.tmp 4) (.tmp 82) z (w.1.size+1+1) es _ z z a2.o.z z Z.o ?_;intro W7 k7 c7;have U:=O (EQ k7 c7);clear k7 c7));rw[b5.o];refine aC a6 a5 aj U.o.1 Z.o.1 z z z ?_;exact fr J a2.o a7.o U.o.2
   have h3:256<D.cells+num:=by omega
   have h4:D.cells+num<1000:=by omega
   have hf:=bP D _ 134 (l,c) cs W K.o;go_wp2_with (first| (with_reducible refine l1 79 109 ?_;refine ac a6 a5 aj z (.tmp 2) z w.1.size cs z (O A.o.f) HL.o.1 ?_));refine hf.mono ?_;rintro e Y ⟨⟨es,rfl,hd⟩,g⟩;have a2:=O (A.o.below g);have a7:Hid (aG (jw ok w Y) Y _ es):=O (hd.CQ fun c j=>⟨j.1,FJ j.2 g.size⟩);have Z:=O hd.cells;go_wp2_with (first| (with_reducible refine s0 109 ?_;refine af aj z (.tmp 4) (.tmp 82) z (w.1.size+1+1) es _ z z a2.o.z z Z.o ?_;intro W7 k7 c7;have U:=O (EQ k7 c7);clear k7 c7));rw[b5.o];refine aC a6 a5 aj U.o.1 Z.o.1 z z z ?_;exact fr J a2.o a7.o U.o.2
  .have m6:=N.o.cells;obtain⟨va,f3,F,-⟩:=K.o.r1;have c1:=(A.o.f.cell 1).trans F;have c14:=(A.o.f.cell 14).trans K.o.ints.2.2;have C2:=A.o.f.frozen 14;have X:¬num<1:=by omega
   have h2:¬256<num:=by omega
   have h3:¬256<D.cells+num:=by omega
   have h4: -1000<=D.cells+num:=by omega
   go_wp2_with fail;have b6:=A.o.Dc (A.o.f.set1 14 (I (D.cells+num))) (Ch.one 14 _ W);have b4:=dr J (aG.Fw K.o (D.cells+num)) (Ch.one (b:=w.1.size) 14 (I (D.cells+num)) W) rl (by omega);have l9:=O g;generalize Gc _ _ _=Wa at *;generalize cs.set 14 _=a4 at *;let ⟨V4,k6⟩:=eX (Wa.drew)
   have e8:Hid (Dq w a4 _ V4):=O (by rw[<-k6];exact b6.below (FB _ Wa).drew);have h8:Hid (aG (jw ok w V4) V4 ({D with cells:=D.cells+num}:DF) a4):=O (by rw[<-k6];exact cD b4 (FB _ Wa).drew);let ⟨G1,E5,C8,o8⟩:=aG.r1 h8.o
   have y0:=O h8.o.cells;let ⟨i4,z4,v6,t9,w0,x9,y3⟩:=bJ sM
   have A5:prog.underlying 24=some (.slice (lg 3).ty):=by kernel_rfl
   refine al [10] (fun W=>bL V4 W) a9 ?_;rw[k6];have f0:Hid (bL V4 V4):=O (FB _ V4);refine nk 0 ?_;refine fK _ 2 (fun G H=> ((e8.o.f.below H).cell 1).trans C8) ?_;refine fa 4 ?_;refine nm ?_;refine fK (fun G=>G.cell? ⟨w.1.size+1,4,none⟩=some (.int .i64 num)) 5 (fun G H=>by rw[(e8.o.d.below H).cell];rfl) ?_;refine nm ?_
   refine dS (E:=(lg 3)) 3 6 7 92 95 96 24 (.const (.slice none 0 0)) (.tmp 91) (.tmp 94) z z z ⟨z,z,z⟩ ⟨z,z,z⟩ (by kernel_rfl) (by kernel_rfl) (by kernel_rfl) (by kernel_rfl) (by decide) z z z (by kernel_rfl) (by decide) ⟨91,z,by decide⟩ ⟨94,z,by decide⟩ (fun _=>z) A5 v6 t9 w0 x9 (by decide) (by decide) y3 z o8 (fun _ _ _ _ _ h=>h) (by have:=N.o.lens;show D.P.CW.length<=1000000;omega) (I num) [I num] num z z (fun _ _=>z) (fun _ h=>h) (fun v1 v2 g4 o6 W4 n6 d5=>?_);refine nm ?_;refine tk 8 (some 97) d5 ?_;refine tk 9 (some 98) d5 ?_;refine nm ?_;refine oD 10 fun a1 S=>?_
   refine aA (by kernel_rfl) (.tmp 98) (.tmp 96) z w.1.size 1 109 (.slice (some (ad g4 0)) ((({D with cells:=D.cells+num}:DF):DF).P.CW.length+1) o6) a4 z z z z (e8.o.f.below d5) (by rw[y0.o.1];decide) ?_;intro U4 M V;have f5:=O (EQ M V);refine S _ _ nofun ?_;simp only[Gf];refine dn ?_;have Q:=aG.tight (ok:=fun c=>ok c∨w.1.size+3<=c) (aG.s1 (aG.CQ (fun c j=>j.1) (h8.o.below d5)) (Ro.CQ (fun c j=> .inr (by have X:V4.1.size<=c:=j;have:=e8.o.lt;omega)) (Ro.of n6)));have n8:=O ((e8.o.below d5).Dc f5.o.1 f5.o.2);have r6:=O (dr J Q f5.o.2 rl (by omega));generalize a4.set 1 (.slice (some (ad g4 0)) ((({D with cells:=D.cells+num}:DF):DF).P.CW.length+1) o6)=k9 at *;go_wp2_with fail
   let ⟨V5,j2⟩:=eX (U4.drew)
   have e0:Hid (Dq w k9 _ V5):=O (by rw[<-j2];exact n8.o.below (FB _ U4).drew);have j7:Hid (aG (jw ok w V5) V5 ({({D with cells:=D.cells+num}:DF) with P:={(({D with cells:=D.cells+num}:DF):DF).P with CW:=(({D with cells:=D.cells+num}:DF):DF).P.CW++[num]}}:DF) k9):=O (by rw[<-j2];exact cD r6.o (FB _ U4).drew);let ⟨E3,F9,u9,p3⟩:=aG.r9 j7.o
   have u7:=O j7.o.cells;let ⟨i5,z5,D1,A4,C5,x0,B4⟩:=bJ kC
   have C3:prog.underlying 26=some (.slice fl.ty):=by kernel_rfl
   refine al [12] (fun W=>bL V5 W) a9 ?_;rw[j2];have e2:Hid (bL V5 V5):=O (FB _ V5);refine ke 0 ?_;refine fK _ 3 (fun G H=> ((e0.o.f.below H).cell 9).trans u9) ?_;refine nm ?_;refine fa 5 ?_;refine fK (fun G=>G.cell? ⟨w.1.size+1,3,none⟩=some (.string C)) 6 (fun G H=>by rw[(e0.o.d.below H).cell];rfl) ?_;refine nm ?_
   refine dS (E:=fl) 4 7 8 103 106 107 26 (.const (.slice none 0 0)) (.tmp 102) (.tmp 105) z z z ⟨z,z,z⟩ ⟨z,z,z⟩ (by kernel_rfl) (by kernel_rfl) (by kernel_rfl) (by kernel_rfl) (by decide) z z z (by kernel_rfl) (by decide) ⟨102,z,by decide⟩ ⟨105,z,by decide⟩ (fun _=>z) C3 D1 A4 C5 x0 (by decide) (by decide) B4 z p3 (fun _ _ _ _ _ h=>h) (by have:=N.o.lens;show D.P.na.length<=1000000;omega) (.string C) [.string C] C z z (fun _ _=>z) (fun _ h=>h) (fun v1 v2 g5 t1 W5 m4 b8=>?_);refine nm ?_;refine tk 9 (some 108) b8 ?_;refine tk 10 (some 109) b8 ?_;refine tk 11 (some 110) b8 ?_;refine nm ?_;refine oD 12 fun a1 S=>?_
   refine aA (by kernel_rfl) (.tmp 110) (.tmp 107) z w.1.size 9 109 (.slice (some (ad g5 0)) ((({D with cells:=D.cells+num}:DF):DF).P.na.length+1) t1) k9 z z z z (e0.o.f.below b8) (by rw[u7.o.1];decide) ?_;intro U5 M V;have i0:=O (EQ M V);refine S _ _ nofun ?_;simp only[Gf];refine dn ?_;have Q:=aG.tight (ok:=fun c=>ok c∨w.1.size+3<=c) (aG.s9 (aG.CQ (fun c j=>j.1) (j7.o.below b8)) (Ro.CQ (fun c j=> .inr (by have X:V5.1.size<=c:=j;have:=e0.o.lt;omega)) (Ro.of m4)));have u5:=O ((e0.o.below b8).Dc i0.o.1 i0.o.2);have x5:=O (dr J Q i0.o.2 rl (by omega));generalize k9.set 9 (.slice (some (ad g5 0)) ((({D with cells:=D.cells+num}:DF):DF).P.na.length+1) t1)=E4 at *;go_wp2_with fail;refine a3.o _ _ ?_
   exact fC J (by decide) (by exact N.o.names) u5 x5 (O (b7.o _ (by show (if num<1∨256<num∨256<D.cells+num then _ else _)=_;exact am l9.o)))
 .have hm:=N.o.lens;have c2:=(A.o.f.cell 2).trans K.o.ints.1;have g2:=A.o.f.frozen 2;have v4:(D.P.CT:Int)<100:=by omega
  go_wp2_with fail;have b6:=A.o.Dc (A.o.f.set1 2 (I ((D.P.CT:Int)+1))) (Ch.one 2 _ W);have b4:=dr J (aG.s2 K.o (D.P.CT+1)) (Ch.one (b:=w.1.size) 2 (I ((D.P.CT:Int)+1)) W) rl (by omega);rw[show ((D.P.CT+1:Nat):Int)=(D.P.CT:Int)+1 from rfl]at b4;generalize Gc _ _ _=Wa at *;generalize cs.set 2 _=a4 at *;let ⟨V6,f6⟩:=eX (Wa.drew)
  have d9:Hid (Dq w a4 _ V6):=O (by rw[<-f6];exact b6.below (FB _ Wa).drew);have h9:Hid (aG (jw ok w V6) V6 ({D with P:={D.P with CT:=D.P.CT+1}}:DF) a4):=O (by rw[<-f6];exact cD b4 (FB _ Wa).drew);let ⟨G2,F0,w6,n7⟩:=aG.Ft h9.o
  have A7:=O h9.o.cells;let ⟨i6,z6,x3,t4,x7,t7,y2⟩:=bJ kC
  have u4:prog.underlying 26=some (.slice fl.ty):=by kernel_rfl
  refine al [12] (fun W=>bL V6 W) a9 ?_;rw[f6];have e4:Hid (bL V6 V6):=O (FB _ V6);refine ke 0 ?_;refine fK _ 3 (fun G H=> ((d9.o.f.below H).cell 10).trans w6) ?_;refine nm ?_;refine fa 5 ?_;refine fK (fun G=>G.cell? ⟨w.1.size+1,3,none⟩=some (.string C)) 6 (fun G H=>by rw[(d9.o.d.below H).cell];rfl) ?_;refine nm ?_
  refine dS (E:=fl) 4 7 8 126 129 130 26 (.const (.slice none 0 0)) (.tmp 125) (.tmp 128) z z z ⟨z,z,z⟩ ⟨z,z,z⟩ (by kernel_rfl) (by kernel_rfl) (by kernel_rfl) (by kernel_rfl) (by decide) z z z (by kernel_rfl) (by decide) ⟨125,z,by decide⟩ ⟨128,z,by decide⟩ (fun _=>z) u4 x3 t4 x7 t7 (by decide) (by decide) y2 z n7 (fun _ _ _ _ _ h=>h) (by have:=N.o.lens;show D.P.nm.length<=1000000;omega) (.string C) [.string C] C z z (fun _ _=>z) (fun _ h=>h) (fun v1 v2 g6 s7 W6 o7 c9=>?_);refine nm ?_;refine tk 9 (some 131) c9 ?_;refine tk 10 (some 132) c9 ?_;refine tk 11 (some 133) c9 ?_;refine nm ?_;refine oD 12 fun a1 S=>?_
  refine aA (by kernel_rfl) (.tmp 133) (.tmp 130) z w.1.size 10 109 (.slice (some (ad g6 0)) (D.P.nm.length+1) s7) a4 z z z z (d9.o.f.below c9) (by rw[A7.o.1];decide) ?_;intro U6 M V;have j6:=O (EQ M V);refine S _ _ nofun ?_;simp only[Gf];refine dn ?_;have Q:=aG.tight (ok:=fun c=>ok c∨w.1.size+3<=c) (aG.Fz (aG.CQ (fun c j=>j.1) (h9.o.below c9)) (Ro.CQ (fun c j=> .inr (by have X:V6.1.size<=c:=j;have:=d9.o.lt;omega)) (Ro.of o7)));have A3:=O ((d9.o.below c9).Dc j6.o.1 j6.o.2);have t8:=O (dr J Q j6.o.2 rl (by omega));generalize a4.set 10 (.slice (some (ad g6 0)) (D.P.nm.length+1) s7)=G0 at *;go_wp2_with fail;refine a3.o _ _ ?_;exact fC J (by decide) (by exact N.o.names) A3 t8 (O (b7.o _ z))
 .have hm:=N.o.lens;have c3:=(A.o.f.cell 3).trans K.o.ints.2.1;have g3:=A.o.f.frozen 3;have v4:(D.P.conds:Int)<100:=by omega
  go_wp2_with fail;have b6:=A.o.Dc (A.o.f.set1 3 (I ((D.P.conds:Int)+1))) (Ch.one 3 _ W);have b4:=dr J (aG.s3 K.o (D.P.conds+1)) (Ch.one (b:=w.1.size) 3 (I ((D.P.conds:Int)+1)) W) rl (by omega);rw[show ((D.P.conds+1:Nat):Int)=(D.P.conds:Int)+1 from rfl]at b4;generalize Gc _ _ _=Wa at *;generalize cs.set 3 _=a4 at *;let ⟨V7,g1⟩:=eX (Wa.drew)
  have e7:Hid (Dq w a4 _ V7):=O (by rw[<-g1];exact b6.below (FB _ Wa).drew);have j5:Hid (aG (jw ok w V7) V7 ({D with P:={D.P with conds:=D.P.conds+1}}:DF) a4):=O (by rw[<-g1];exact cD b4 (FB _ Wa).drew);let ⟨E2,D6,y9,q6⟩:=aG.FA j5.o
  have u6:=O j5.o.cells;let ⟨i7,z7,A2,y6,A9,C0,C1⟩:=bJ kC
  have B0:prog.underlying 26=some (.slice fl.ty):=by kernel_rfl
  refine al [12] (fun W=>bL V7 W) a9 ?_;rw[g1];have e3:Hid (bL V7 V7):=O (FB _ V7);refine ke 0 ?_;refine fK _ 3 (fun G H=> ((e7.o.f.below H).cell 11).trans y9) ?_;refine nm ?_;refine fa 5 ?_;refine fK (fun G=>G.cell? ⟨w.1.size+1,3,none⟩=some (.string C)) 6 (fun G H=>by rw[(e7.o.d.below H).cell];rfl) ?_;refine nm ?_
  refine dS (E:=fl) 4 7 8 149 152 153 26 (.const (.slice none 0 0)) (.tmp 148) (.tmp 151) z z z ⟨z,z,z⟩ ⟨z,z,z⟩ (by kernel_rfl) (by kernel_rfl) (by kernel_rfl) (by kernel_rfl) (by decide) z z z (by kernel_rfl) (by decide) ⟨148,z,by decide⟩ ⟨151,z,by decide⟩ (fun _=>z) B0 A2 y6 A9 C0 (by decide) (by decide) C1 z q6 (fun _ _ _ _ _ h=>h) (by have:=N.o.lens;show D.P.nc.length<=1000000;omega) (.string C) [.string C] C z z (fun _ _=>z) (fun _ h=>h) (fun v1 v2 g7 m8 W7 p0 b9=>?_);refine nm ?_;refine tk 9 (some 154) b9 ?_;refine tk 10 (some 155) b9 ?_;refine tk 11 (some 156) b9 ?_;refine nm ?_;refine oD 12 fun a1 S=>?_
  refine aA (by kernel_rfl) (.tmp 156) (.tmp 153) z w.1.size 11 109 (.slice (some (ad g7 0)) (D.P.nc.length+1) m8) a4 z z z z (e7.o.f.below b9) (by rw[u6.o.1];decide) ?_;intro U7 M V;have l4:=O (EQ M V);refine S _ _ nofun ?_;simp only[Gf];refine dn ?_;have Q:=aG.tight (ok:=fun c=>ok c∨w.1.size+3<=c) (aG.Fs (aG.CQ (fun c j=>j.1) (j5.o.below b9)) (Ro.CQ (fun c j=> .inr (by have X:V7.1.size<=c:=j;have:=e7.o.lt;omega)) (Ro.of p0)));have v5:=O ((e7.o.below b9).Dc l4.o.1 l4.o.2);have B7:=O (dr J Q l4.o.2 rl (by omega));generalize a4.set 11 (.slice (some (ad g7 0)) (D.P.nc.length+1) m8)=E0 at *;go_wp2_with fail;refine a3.o _ _ ?_;exact fC J (by decide) (by exact N.o.names) v5 B7 (O (b7.o _ z))
 .by_cases g:num<1∨16<num
  .have b5:Hid (R=D.DA 134 (l,c)):=O (b7.o _ (by show (if num<1∨16<num then _ else _)=_;exact aD g));obtain⟨va,f3,F,-⟩:=K.o.r4;have c4:=(A.o.f.cell 4).trans F;by_cases X:num<1
   .skip;have hf:=bP D _ 134 (l,c) cs W K.o;go_wp2_with (first| (with_reducible refine l1 171 109 ?_;refine ac a6 a5 aj z (.tmp 2) z w.1.size cs z (O A.o.f) HL.o.1 ?_));refine hf.mono ?_;rintro e Y ⟨⟨es,rfl,hd⟩,g⟩;have a2:=O (A.o.below g);have a7:Hid (aG (jw ok w Y) Y _ es):=O (hd.CQ fun c j=>⟨j.1,FJ j.2 g.size⟩);have Z:=O hd.cells;go_wp2_with (first| (with_reducible refine s0 109 ?_;refine af aj z (.tmp 4) (.tmp 174) z (w.1.size+1+1) es _ z z a2.o.z z Z.o ?_;intro W7 k7 c7;have U:=O (EQ k7 c7);clear k7 c7));rw[b5.o];refine aC a6 a5 aj U.o.1 Z.o.1 z z z ?_;exact fr J a2.o a7.o U.o.2
   have h2:16<num:=by omega
   have hf:=bP D _ 134 (l,c) cs W K.o;go_wp2_with (first| (with_reducible refine l1 171 109 ?_;refine ac a6 a5 aj z (.tmp 2) z w.1.size cs z (O A.o.f) HL.o.1 ?_));refine hf.mono ?_;rintro e Y ⟨⟨es,rfl,hd⟩,g⟩;have a2:=O (A.o.below g);have a7:Hid (aG (jw ok w Y) Y _ es):=O (hd.CQ fun c j=>⟨j.1,FJ j.2 g.size⟩);have Z:=O hd.cells;go_wp2_with (first| (with_reducible refine s0 109 ?_;refine af aj z (.tmp 4) (.tmp 174) z (w.1.size+1+1) es _ z z a2.o.z z Z.o ?_;intro W7 k7 c7;have U:=O (EQ k7 c7);clear k7 c7));rw[b5.o];refine aC a6 a5 aj U.o.1 Z.o.1 z z z ?_;exact fr J a2.o a7.o U.o.2
  .have X:¬num<1:=by omega
   have h2:¬16<num:=by omega
   obtain⟨va,f3,F,-⟩:=K.o.r4;have c4:=(A.o.f.cell 4).trans F;go_wp2_with fail;have l9:=O g;let ⟨V8,f7⟩:=eX (W.drew)
   have d1:Hid (Dq w cs _ V8):=O (by rw[<-f7];exact A.o.below (FB _ W).drew);have h7:Hid (aG (jw ok w V8) V8 D cs):=O (by rw[<-f7];exact cD K.o (FB _ W).drew);let ⟨D5,F1,x1,p9⟩:=aG.r4 h7.o
   have A6:=O h7.o.cells;let ⟨i8,z8,C9,B9,x2,A0,z1⟩:=bJ sM
   have y4:prog.underlying 24=some (.slice (lg 3).ty):=by kernel_rfl
   refine al [10] (fun W=>bL V8 W) a9 ?_;rw[f7];have f2:Hid (bL V8 V8):=O (FB _ V8);refine nk 0 ?_;refine fK _ 2 (fun G H=> ((d1.o.f.below H).cell 4).trans x1) ?_;refine fa 4 ?_;refine nm ?_;refine fK (fun G=>G.cell? ⟨w.1.size+1,4,none⟩=some (.int .i64 num)) 5 (fun G H=>by rw[(d1.o.d.below H).cell];rfl) ?_;refine nm ?_
   refine dS (E:=(lg 3)) 3 6 7 178 181 182 24 (.const (.slice none 0 0)) (.tmp 177) (.tmp 180) z z z ⟨z,z,z⟩ ⟨z,z,z⟩ (by kernel_rfl) (by kernel_rfl) (by kernel_rfl) (by kernel_rfl) (by decide) z z z (by kernel_rfl) (by decide) ⟨177,z,by decide⟩ ⟨180,z,by decide⟩ (fun _=>z) y4 C9 B9 x2 A0 (by decide) (by decide) z1 z p9 (fun _ _ _ _ _ h=>h) (by have:=N.o.lens;show D.P.CX.length<=1000000;omega) (I num) [I num] num z z (fun _ _=>z) (fun _ h=>h) (fun v1 v2 g8 q5 W8 p2 d4=>?_);refine nm ?_;refine tk 8 (some 183) d4 ?_;refine tk 9 (some 184) d4 ?_;refine nm ?_;refine oD 10 fun a1 S=>?_
   refine aA (by kernel_rfl) (.tmp 184) (.tmp 182) z w.1.size 4 109 (.slice (some (ad g8 0)) ((D:DF).P.CX.length+1) q5) cs z z z z (d1.o.f.below d4) (by rw[A6.o.1];decide) ?_;intro U8 M V;have j4:=O (EQ M V);refine S _ _ nofun ?_;simp only[Gf];refine dn ?_;have Q:=aG.tight (ok:=fun c=>ok c∨w.1.size+3<=c) (aG.s4 (aG.CQ (fun c j=>j.1) (h7.o.below d4)) (Ro.CQ (fun c j=> .inr (by have X:V8.1.size<=c:=j;have:=d1.o.lt;omega)) (Ro.of p2)));have r7:=O ((d1.o.below d4).Dc j4.o.1 j4.o.2);have q8:=O (dr J Q j4.o.2 rl (by omega));generalize cs.set 4 (.slice (some (ad g8 0)) ((D:DF).P.CX.length+1) q5)=h5 at *;go_wp2_with fail;let ⟨V9,j3⟩:=eX (U8.drew)
   have e6:Hid (Dq w h5 _ V9):=O (by rw[<-j3];exact r7.o.below (FB _ U8).drew);have k0:Hid (aG (jw ok w V9) V9 ({D with P:={(D:DF).P with CX:=(D:DF).P.CX++[num]}}:DF) h5):=O (by rw[<-j3];exact cD q8.o (FB _ U8).drew);let ⟨F2,E8,y1,o9⟩:=aG.Fy k0.o
   have w5:=O k0.o.cells;let ⟨i9,z9,l7,m0,y7,C7,t6⟩:=bJ kC
   have A1:prog.underlying 26=some (.slice fl.ty):=by kernel_rfl
   refine al [12] (fun W=>bL V9 W) a9 ?_;rw[j3];have d6:Hid (bL V9 V9):=O (FB _ V9);refine ke 0 ?_;refine fK _ 3 (fun G H=> ((e6.o.f.below H).cell 12).trans y1) ?_;refine nm ?_;refine fa 5 ?_;refine fK (fun G=>G.cell? ⟨w.1.size+1,3,none⟩=some (.string C)) 6 (fun G H=>by rw[(e6.o.d.below H).cell];rfl) ?_;refine nm ?_
   refine dS (E:=fl) 4 7 8 189 192 193 26 (.const (.slice none 0 0)) (.tmp 188) (.tmp 191) z z z ⟨z,z,z⟩ ⟨z,z,z⟩ (by kernel_rfl) (by kernel_rfl) (by kernel_rfl) (by kernel_rfl) (by decide) z z z (by kernel_rfl) (by decide) ⟨188,z,by decide⟩ ⟨191,z,by decide⟩ (fun _=>z) A1 l7 m0 y7 C7 (by decide) (by decide) t6 z o9 (fun _ _ _ _ _ h=>h) (by have:=N.o.lens;show D.P.nh.length<=1000000;omega) (.string C) [.string C] C z z (fun _ _=>z) (fun _ h=>h) (fun v1 v2 g9 q7 W9 p1 d0=>?_);refine nm ?_;refine tk 9 (some 194) d0 ?_;refine tk 10 (some 195) d0 ?_;refine tk 11 (some 196) d0 ?_;refine nm ?_;refine oD 12 fun a1 S=>?_
   refine aA (by kernel_rfl) (.tmp 196) (.tmp 193) z w.1.size 12 109 (.slice (some (ad g9 0)) ((D:DF).P.nh.length+1) q7) h5 z z z z (e6.o.f.below d0) (by rw[w5.o.1];decide) ?_;intro U9 M V;have j8:=O (EQ M V);refine S _ _ nofun ?_;simp only[Gf];refine dn ?_;have Q:=aG.tight (ok:=fun c=>ok c∨w.1.size+3<=c) (aG.Fv (aG.CQ (fun c j=>j.1) (k0.o.below d0)) (Ro.CQ (fun c j=> .inr (by have X:V9.1.size<=c:=j;have:=e6.o.lt;omega)) (Ro.of p1)));have B8:=O ((e6.o.below d0).Dc j8.o.1 j8.o.2);have C6:=O (dr J Q j8.o.2 rl (by omega));generalize h5.set 12 (.slice (some (ad g9 0)) ((D:DF).P.nh.length+1) q7)=F4 at *;go_wp2_with fail;refine a3.o _ _ ?_
   exact fC J (by decide) (by exact N.o.names) B8 C6 (O (b7.o _ (by show (if num<1∨16<num then _ else _)=_;exact am l9.o)))
 .skip;obtain⟨va,f3,F,-⟩:=K.o.r5;have c5:=(A.o.f.cell 5).trans F;go_wp2_with fail;let ⟨a8,h6⟩:=eX (W.drew)
  have d2:Hid (Dq w cs _ a8):=O (by rw[<-h6];exact A.o.below (FB _ W).drew);have h0:Hid (aG (jw ok w a8) a8 D cs):=O (by rw[<-h6];exact cD K.o (FB _ W).drew);let ⟨E6,F6,u0,p8⟩:=aG.r5 h0.o
  have u1:=O h0.o.cells;let ⟨D9,F5,u3,D2,B6,v7,w3⟩:=bJ sJ
  have x4:prog.underlying 25=some (.slice gh.ty):=by kernel_rfl
  refine al [11] (fun W=>bL a8 W) a9 ?_;rw[h6];have e1:Hid (bL a8 a8):=O (FB _ a8);refine nk 0 ?_;refine fK _ 2 (fun G H=> ((d2.o.f.below H).cell 5).trans u0) ?_;refine fa 4 ?_;refine nm ?_;refine fK (fun G=>G.cell? ⟨w.1.size+1,3,none⟩=some (.string C)) 5 (fun G H=>by rw[(d2.o.d.below H).cell];rfl) ?_;refine fa 6 ?_;refine nm ?_
  refine dS (E:=gh) 3 7 8 206 210 211 25 (.const (.slice none 0 0)) (.tmp 205) (.tmp 209) z z z ⟨z,z,z⟩ ⟨z,z,z⟩ (by kernel_rfl) (by kernel_rfl) (by kernel_rfl) (by kernel_rfl) (by decide) z z z (by kernel_rfl) (by decide) ⟨205,z,by decide⟩ ⟨209,z,by decide⟩ (fun _=>z) x4 u3 D2 B6 v7 (by decide) (by decide) w3 z p8 (fun W cs x hm _ h=>by let ⟨a,cap,X,h2,h3⟩:=h;have g:=N.o.body x hm;exact⟨a,cap,X,h2,by rw[g];unfold aE;trivial⟩) (by have:=N.o.lens;show D.P.threads.length<=1000000;omega) (.agg #[.string C,I 0,.slice none 0 0]) [.string C,I 0,.slice none 0 0] ⟨C,0,[]⟩ z z (fun ok W=>⟨none,0,z,⟨rl,by decide⟩,by unfold aE;trivial⟩) (fun _ h=>h) (fun v1 v2 p5 n9 D4 o0 g=>?_);have d3:=O g;refine nm ?_
  refine nk 9 ?_;refine nm ?_;refine oD 11 fun a1 S=>?_;refine aA (by kernel_rfl) (.tmp 213) (.tmp 211) z w.1.size 5 109 (.slice (some (ad p5 0)) (D.P.threads.length+1) n9) cs z z z z (d2.o.f.below d3.o) (by rw[u1.o.1];decide) ?_;intro E9 M V;have f8:=O (EQ M V);refine S _ _ nofun ?_;simp only[Gf];refine dn ?_;have Q:=aG.tight (ok:=fun c=>ok c∨w.1.size+3<=c) (aG.s5 (aG.CQ (fun c j=>j.1) (h0.o.below d3.o)) (Ro.CQ (fun c j=> .inr (by have X:a8.1.size<=c:=j;have:=d2.o.lt;omega)) (Ro.of o0)));have w2:=O ((d2.o.below d3.o).Dc f8.o.1 f8.o.2);have y5:=O (dr J Q f8.o.2 rl (by omega));generalize cs.set 5 (.slice (some (ad p5 0)) (D.P.threads.length+1) n9)=E7 at *;go_wp2_with fail;refine a3.o _ _ ?_
  exact fC J (by decide) (by exact N.o.names) w2 y5 (O (b7.o _ z))
mutual
def St.cl:St->Prop
 | .mk _ _ _ _ _ _ _ body els _ _ _ lo=>lo=false/\St.cls body/\St.cls els
def St.cls:List St->Prop
 | []=>True
 |s::r=>s.cl/\St.cls r
end
theorem yF{P:Pg}{L:List Nm}{loc mo:Nat}(h:hq D P L n loc mo)(p:Int×Int)(k:Int)(s:ByteArray)(sl:Int)(q:Nat)(b:Bool)(G:1<=q)(E:q<=6)(A:eu k=(q,if b then 100 else q)):
  match hs L s q b p with
  | .error e=>ir (D.stW p k s sl false).1 e
  | .ok x=>D.stW p k s sl false=(D,(x.slot:Int),if b then decide (x.kind=0) else false):=by
 have j:=gQ h.CR h.names h.nd h.kd s q G E b p
 unfold DF.stW
 rw[A]
 rw[aD (by show q≠0;omega)]
 cases g:hs L s q b p with
 |error e=>
  rw[g]at j
  exact j
 |ok x=>
  rw[g]at j
  let ⟨F,C⟩:=j
  show (_,_,_)=_
  rw[F]
  show (D,((gz x).slot:Int),decide ((gz x).kind=100))=_
  rw[oQ C]
  cases b with
  |true=>rfl
  |false=>
   have J:x.kind=q:=by
    unfold hs at g
    split at g
    .cases g
    .split at g
     .cases g
     .rename_i w
      cases g
      simpa using w
   have H:decide (x.kind=0)=false:=by
    rw[decide_eq_false_iff_not]
    omega
   rw[H]
   rfl
theorem sI(k:Int):(nY k=none/\eu k=(0,0)/\kJ k=none)∨∃q b,nY k=some (q,b)/\1<=q/\q<=6/\eu k=(q,if b then 100 else q)/\((k=8/\kJ k=some (3,false))∨(k=12/\kJ k=some (1,true))∨(k≠8/\k≠12/\kJ k=none)):=by
 unfold nY eu kJ;by_cases A:k=2
 .right;exact⟨1,true,by subst A;simp⟩
 by_cases j:k=3
 .right;exact⟨2,false,by subst j;simp⟩
 by_cases w:k=6∨k=7
 .right;exact⟨3,false,by rcases w with rfl|rfl<;>simp⟩
 by_cases C:k=8∨k=9∨k=10
 .right;exact⟨4,false,by rcases C with rfl|rfl|rfl<;>simp⟩
 by_cases D:k=11∨k=12
 .right;exact⟨5,false,by rcases D with rfl|rfl<;>simp⟩
 by_cases g:k=13
 .right;exact⟨6,false,by subst g;simp⟩
 left;rw[am A,am j,am w,am C,am D,am g,am A,am j,am w,am C,am D,am g,am (by omega),am (by omega)];exact⟨z,z,z⟩
theorem AG{P:Pg}{L:List Nm}{loc mo:Nat}(h:hq D P L n loc mo)(p:Int×Int)(k:Int)(s t:ByteArray)(sl ot:Int)(N:k≠1):
  match dW L loc p k s t sl ot false with
  | .error e=>ir (D.DR p k s t sl ot false).1 e
  | .ok r=>D.DR p k s t sl ot false=(D,r):=by
 unfold dW DF.DR
 rw[am N,am N]
 rcases sI k with ⟨H,G,g⟩|⟨q,b,H,R,Q,G,g⟩
 .rw[H]
  have S:D.stW p k s sl false=(D,sl,false):=by
   unfold DF.stW
   rw[G]
   rfl
  have A:k≠8:=by rintro rfl;revert g;decide
  have w:k≠12:=by rintro rfl;revert g;decide
  rw[am A,am w,S]
 .rw[H]
  have F:=yF h p k s sl q b R Q G
  simp only
  cases K:hs L s q b p with
  |error e=>
   rw[K]at F
   have C:=F
   have M:(D.stW p k s sl false).1.CR≠0:=by rw[C.2.1];exact C.1
   simp only
   by_cases A:k=8
   .rw[aD A]
    show ir (DF.CZ _ t 3 3 p).1 e
    rw[dE M]
    exact C
   .rw[am A]
    by_cases w:k=12
    .rw[aD w]
     show ir (DF.CZ _ t 1 100 p).1 e
     rw[dE M]
     exact C
    .rw[am w]
     exact C
  |ok x=>
   rw[K]at F
   have C:=F
   rw[C]
   simp only
   rcases g with ⟨A,g⟩|⟨w,g⟩|⟨A,w,g⟩
   .rw[g,aD A]
    have j:=gQ h.CR h.names h.nd h.kd t 3 (by decide) (by decide) false p
    simp only
    cases E:hs L t 3 false p with
    |error e=>
     rw[E]at j
     exact j
    |ok y=>
     rw[E]at j
     have J:D.CZ t 3 3 p=(D,gz y):=j.1
     rw[J]
     rfl
   .rw[g,am (show ¬k=8 by omega),aD w]
    have j:=gQ h.CR h.names h.nd h.kd t 1 (by decide) (by decide) true p
    simp only
    cases E:hs L t 1 true p with
    |error e=>
     rw[E]at j
     exact j
    |ok y=>
     rw[E]at j
     have J:D.CZ t 1 100 p=(D,gz y):=j.1
     rw[J]
     show (D,_,_,decide ((gz y).kind=100))=_
     rw[oQ j.2]
     rfl
   .rw[g,am A,am w]
theorem hq.back{D':DF}{P:Pg}{L:List Nm}{loc mo:Nat}(h:hq D P L n loc mo)(g:hq D' P N j n5 n0):hq (D'.back D) P L j loc n0:=⟨g.CR,h.names,g.prog,h.locals,g.CY,h.nd,h.kd⟩
theorem zB{P:Pg}{L:List Nm}{loc mo:Nat}(h:hq D P L n loc mo)(N:loc<=32)(p:Int×Int)(s t:ByteArray)(sl ot:Int)(lo:Bool):
  match dW L loc p 1 s t sl ot lo with
  | .error e=>ir (D.DR p 1 s t sl ot lo).1 e
  | .ok r=> (D.DR p 1 s t sl ot lo).2=r/\hq (D.DR p 1 s t sl ot lo).1 P (L++[⟨s,0,loc⟩]) n (loc+1) (max mo (loc+1))/\loc+1<=32:=by
 unfold dW DF.DR
 rw[aD rfl,aD rfl]
 have M:D.stW p 1 s sl lo=(D,sl,lo):=z
 rw[M]
 simp only
 by_cases A:(ex L s).isSome=true
 .rw[aD A]
  let ⟨x,g⟩:=IX.1 A
  obtain⟨i,H,-⟩:=jN h.names h.nd g
  have j:D.DG p s=D.DA 130 p:=by
   unfold DF.DG
   rw[H]
   rfl
  rw[j]
  have C:=dD h.CR (e:=130) (by decide) p
  have K:(D.DA 130 p).CR≠0:=by rw[C.2.1];exact C.1
  have w:(D.DA 130 p).DD p=D.DA 130 p:=by
   unfold DF.DD
   split
   .exact eS K _ _
   .rfl
  rw[w]
  exact C
 .rw[am A]
  have F:ex L s=none:=by
   cases g:ex L s with
   |none=>rfl
   |some x=>rw[g]at A;simp at A
  have j:D.DG p s=D:=by
   unfold DF.DG
   rw[jy h.names s F]
   rfl
  rw[j]
  by_cases E:loc=32
  .rw[aD E]
   have w:D.DD p=D.DA 134 p:=by
    unfold DF.DD
    rw[aD (by rw[h.locals,E];decide)]
   rw[w]
   exact dD h.CR (e:=134) (by decide) p
  .rw[am E]
   have w:D.DD p=D:=by
    unfold DF.DD
    rw[am (by rw[h.locals];omega)]
   rw[w]
   refine⟨by rw[h.locals],⟨h.CR,?_,h.prog,?_,?_,?_,?_⟩,by omega⟩
   .show D.names++_=_
    rw[h.names,IM,h.locals]
    rfl
   .show D.locals+1=_
    rw[h.locals]
   .show max D.CY (D.locals+1)=_
    rw[h.locals,h.CY]
   .rw[IM,List.nodup_append]
    refine⟨h.nd,by simp,?_⟩
    intro a J b j G
    simp at j
    obtain⟨x,g,rfl⟩:=HM.1 J
    have:=Hb.1 F x g
    simp at this
    exact this (G.trans j)
   .intro x g
    rcases GG.1 g with g|g
    .exact h.kd x g
    .simp at g
     subst g
     exact FX _
def xI:St->Int
 | .mk k _ _ _ _ _ _ _ _ _ _ _ _=>k
def wB(L:List Nm)(loc:Nat):St->List Nm
 | .mk k _ _ s _ _ _ _ _ _ _ _ _=>if k=1 then L++[⟨s,0,loc⟩] else L
def sL(loc:Nat)(s:St):Nat:=if xI s=1 then loc+1 else loc
def xp(loc mo:Nat)(s:St):Nat:=if xI s=1 then max mo (loc+1) else mo
theorem rz(L:List Nm)(loc n mo:Nat)(s:St)(r:List St):cb L loc n mo (s::r)=match ly L loc n mo s with
  | .error e=> .error e
  | .ok (A,n2,j)=>match cb (wB L loc s) (sL loc s) n2 (xp loc j s) r with
   | .error e=> .error e
   | .ok (r',n3,mo3)=> .ok (A::r',n3,mo3):=by
 rw[cb]
 cases ly L loc n mo s with
 |error e=>rfl
 |ok q=>
  let ⟨A,n2,j⟩:=q
  let ⟨k,l,c,w,t,x,y,body,els,id,sl,ot,lo⟩:=s
  by_cases g:k=1
  .subst g
   rfl
  .have C:wB L loc (.mk k l c w t x y body els id sl ot lo)=L:=am g
   have D:sL loc (.mk k l c w t x y body els id sl ot lo)=loc:=am g
   have E:xp loc j (.mk k l c w t x y body els id sl ot lo)=j:=am g
   simp only[C,D,E,am g]
   rfl
mutual
theorem yD (nm:ByteArray->Bool) {P:Pg}:∀ (s:St) {D:DF} {L:List Nm} {n loc mo d:Nat},jv nm s d=true->s.cl->hq D P L n loc mo->loc<=32->n<=512->
  match ly L loc n mo s with
  | .error e=>ir (DF.st s D).1 e
  | .ok (s',n2,mo2)=> (DF.st s D).2=s'/\hq (DF.st s D).1 P (wB L loc s) n2 (sL loc s) (xp loc mo2 s)/\sL loc s<=32/\n2<=512
 | .mk k l c s t x y body els id sl ot lo,D,L,n,loc,mo,d,hR,hcl,hA,hl,hn=>by
  rw[DF.st,ly]
  rw[St.cl]at hcl
  obtain⟨rfl,hcb,hce⟩:=hcl
  have hst:D.P.stmts=n:=by rw[hA.prog]
  by_cases h512:n=512
  .rw[if_pos h512,if_pos (by rw[hst,h512];decide)]
   exact dD hA.CR (e:=134) (by decide) (l,c)
  rw[if_neg h512,if_neg (by rw[hst];omega)]
  have hI:hq D.inc P L (n+1) loc mo:=⟨hA.CR,hA.names,by show (⟨_,_,_,_,_,_,_,_,_,_,_,_,_⟩:Pg)=_;rw[hst,hA.prog],hA.locals,hA.CY,hA.nd,hA.kd⟩
  have hy:=oC (l,c) hI.CR hI.names hI.nd hI.kd y
  have hx:=oC (l,c) hI.CR hI.names hI.nd hI.kd x
  have hbody:bB nm body (d+1)=true/\bB nm els (d+1)=true/\(k≠4->k≠5->body=[])/\(k≠4->els=[]):=by
   unfold jv at hR
   simp only[FG,Bool.or_eq_true,decide_eq_true_eq]at hR
   obtain⟨-,-,-,-,-,-,h1,h2,h3,h4⟩:=hR
   exact⟨h3,h4,fun a b=>by
    rcases h1 with (h1|h1)|h1
    .exact absurd h1 a
    .exact absurd h1 b
    .exact Hf.1 h1,fun a=>by
    rcases h2 with h2|h2
    .exact absurd h2 a
    .exact Hf.1 h2⟩
  obtain⟨hRb,hRe,hb0,he0⟩:=hbody
  have fin:∀ {E:DF} {f:fT} (a b:List St),ir E f->ir ((DF.Dp b ((DF.Dp a E).1.back E)).1.back ((DF.Dp a E).1.back E)) f:=fun {E f} a b hE=>by
   have h1:E.CR≠0:=by rw[hE.2.1];exact hE.1
   rw[ep h1]
   have h2:(E.back E).CR≠0:=h1
   rw[ep h2]
   exact hE
  cases hfy:hM L (l,c) y with
  |error e=>
   rw[hfy]at hy
   have hy':ir (DF.ex (l,c) y D.inc).1 e:=hy
   have hne:(DF.ex (l,c) y D.inc).1.CR≠0:=by rw[hy'.2.1];exact hy'.1
   simp only[jL (l,c) hne x]
   exact fin _ _ ((kP hne (l,c) k s t sl ot false).bad hy')
  |ok y'=>
   rw[hfy]at hy
   have hy':DF.ex (l,c) y D.inc=(D.inc,y'):=hy
   simp only[hy']
   cases hfx:hM L (l,c) x with
   |error e=>
    rw[hfx]at hx
    have hx':ir (DF.ex (l,c) x D.inc).1 e:=hx
    have hne:(DF.ex (l,c) x D.inc).1.CR≠0:=by rw[hx'.2.1];exact hx'.1
    exact fin _ _ ((kP hne (l,c) k s t sl ot false).bad hx')
   |ok x'=>
    rw[hfx]at hx
    have hx':DF.ex (l,c) x D.inc=(D.inc,x'):=hx
    simp only[hx']
    by_cases hk:k=1
    .subst hk
     have hb:=hb0 (by decide) (by decide)
     have he:=he0 (by decide)
     subst hb he
     have hh:=zB hI hl (l,c) s t sl ot false
     cases hfh:dW L loc (l,c) 1 s t sl ot false with
     |error e=>
      rw[hfh]at hh
      exact fin _ _ hh
     |ok r=>
      rw[hfh]at hh
      obtain⟨h1,h2,h3⟩:=hh
      obtain⟨r1,r2,r3⟩:=r
      simp only[DF.Dp,cb]
      refine⟨?_,?_,h3,by omega⟩
      .rw[h1,hst]
      .show hq _ _ (if (1:Int)=1 then L++[⟨s,0,loc⟩] else L) _ (if (1:Int)=1 then loc+1 else loc) (if (1:Int)=1 then max mo (loc+1) else mo)
       rw[if_pos rfl,if_pos rfl,if_pos rfl]
       have h4:=h2.back h2
       exact h4.back h4
    .have hh:=AG hI (l,c) k s t sl ot hk
     cases hfh:dW L loc (l,c) k s t sl ot false with
     |error e=>
      rw[hfh]at hh
      exact fin _ _ hh
     |ok r=>
      rw[hfh]at hh
      obtain⟨r1,r2,r3⟩:=r
      have hh':D.inc.DR (l,c) k s t sl ot false=(D.inc,r1,r2,r3):=hh
      simp only[hh']
      have hB:=jC nm body hRb hcb hI hl (by omega)
      cases hfb:cb L loc (n+1) mo body with
      |error e=>
       rw[hfb]at hB
       have hB':ir (DF.Dp body D.inc).1 e:=hB
       have hne:((DF.Dp body D.inc).1.back D.inc).CR≠0:=by show (DF.Dp body D.inc).1.CR≠0;rw[hB'.2.1];exact hB'.1
       simp only[ep hne]
       exact hB'
      |ok rb=>
       rw[hfb]at hB
       obtain⟨b',n2,mo2⟩:=rb
       obtain⟨hb1,L',loc',hb2,hb3⟩:=hB
       have hA2:=hI.back hb2
       have hE:=jC nm els hRe hce hA2 hl hb3
       simp only
       cases hfe:cb L loc n2 mo2 els with
       |error e=>
        rw[hfe]at hE
        exact hE
       |ok re=>
        rw[hfe]at hE
        obtain⟨e',n3,mo3⟩:=re
        obtain⟨he1,L'',loc'',he2,he3⟩:=hE
        refine⟨?_,?_,?_,he3⟩
        .rw[hb1,he1,hst]
        .show hq _ _ (if k=1 then L++[⟨s,0,loc⟩] else L) _ (if k=1 then loc+1 else loc) (if k=1 then max mo3 (loc+1) else mo3)
         rw[if_neg hk,if_neg hk,if_neg hk]
         exact hA2.back he2
        .show (if k=1 then loc+1 else loc)<=32
         rw[if_neg hk]
         exact hl
theorem jC (nm:ByteArray->Bool) {P:Pg}:∀ (r:List St) {D:DF} {L:List Nm} {n loc mo d:Nat},bB nm r d=true->St.cls r->hq D P L n loc mo->loc<=32->n<=512->
  match cb L loc n mo r with
  | .error e=>ir (DF.Dp r D).1 e
  | .ok (r',n2,mo2)=> (DF.Dp r D).2=r'/\∃L' loc',hq (DF.Dp r D).1 P L' n2 loc' mo2/\n2<=512
 | [],D,L,n,loc,mo,d,_,_,hA,hl,hn=>by
  rw[DF.Dp,cb]
  exact⟨rfl,L,loc,hA,hn⟩
 |s::r,D,L,n,loc,mo,d,hR,hcl,hA,hl,hn=>by
  rw[DF.Dp,rz,if_neg (by rw[hA.CR];decide)]
  rw[St.cls]at hcl
  rw[bB,FG]at hR
  have hs:=yD nm s hR.1 hcl.1 hA hl hn
  cases hfs:ly L loc n mo s with
  |error e=>
   rw[hfs]at hs
   have hs':ir (DF.st s D).1 e:=hs
   have hne:(DF.st s D).1.CR≠0:=by rw[hs'.2.1];exact hs'.1
   simp only[ep hne]
   exact hs'
  |ok q=>
   rw[hfs]at hs
   obtain⟨s',n2,mo2⟩:=q
   obtain⟨h1,h2,h3,h4⟩:=hs
   have hr:=jC nm r hR.2 hcl.2 h2 h3 h4
   simp only
   cases hfr:cb (wB L loc s) (sL loc s) n2 (xp loc mo2 s) r with
   |error e=>
    rw[hfr]at hr
    exact hr
   |ok q=>
    rw[hfr]at hr
    obtain⟨r',n3,mo3⟩:=q
    obtain⟨g1,L',loc',g2,g3⟩:=hr
    exact⟨by rw[h1,g1],L',loc',g2,g3⟩
end
theorem iC{P:Pg}{L:List Nm}(d:De)(h:hq D P L 0 0 0)(w:L.length=i)(G:1<=d.kind)(H:d.kind<=6)(F:ex L d.name=none):
  if 64<=i then ir (D.Eb d n) ((d.line,d.Dm),134) else hq (D.Eb d n) P (L++[Nm.mk d.name d.kind.toNat n]) 0 0 0/\(D.Eb d n).cells=D.cells/\(L++[Nm.mk d.name d.kind.toNat n]).length=i+1:=by
 have E:D.names.length=i:=by rw[h.names,List.length_map,w]
 unfold DF.Eb;rw[E];split
 .exact dD h.CR (e:=134) (by decide) _
 .refine⟨⟨h.CR,?_,h.prog,h.locals,h.CY,?_,?_⟩,z,by simp[w]⟩
  .show D.names++_=_;rw[h.names,IM];have:gz ⟨d.name,d.kind.toNat,n⟩=⟨d.name,d.kind.toNat,n⟩:=by unfold gz;rw[am (show ¬d.kind.toNat=0 by omega)]
   simp[this]
  .rw[IM,List.nodup_append];refine⟨h.nd,by simp,?_⟩;intro a C b j A;simp at j;obtain⟨x,g,rfl⟩:=HM.1 C;have:=Hb.1 F x g;simp at this;exact this (A.trans j)
  .intro x g;rcases GG.1 g with g|g
   .exact h.kd x g
   .simp at g;subst g;show d.kind.toNat<=6;omega
theorem qy{nm:ByteArray->Bool}{d:De}(h:fI nm d=true):1<=d.kind/\d.kind<=6/\(d.kind=1->-2147483647<=d.num/\d.num<=2147483647)/\(d.kind=6->bB nm d.body 1=true):=by
 unfold fI at h;simp only[FG]at h;obtain⟨-,-,h⟩:=h;by_cases j:d.kind=1
 .rw[aD j]at h;simp only[FG,decide_eq_true_eq]at h;exact⟨by omega,by omega,fun _=>h,fun _=>by omega⟩
 rw[am j]at h;by_cases w:d.kind=2∨d.kind=5
 .exact⟨by omega,by omega,fun _=>by omega,fun _=>by omega⟩
 rw[am w]at h;by_cases A:d.kind=3∨d.kind=4
 .exact⟨by omega,by omega,fun _=>by omega,fun _=>by omega⟩
 rw[am A]at h;by_cases g:d.kind=6
 .rw[aD g]at h;simp only[FG]at h;exact⟨by omega,by omega,fun _=>by omega,fun _=>h.2⟩
 rw[am g]at h;cases h
theorem vc{nm:ByteArray->Bool}{P:Pg}{L:List Nm}{cells:Int}(d:De)(Z:fI nm d=true)(h:hq D P L 0 0 0)(A:P.stmts=0)(H:D.cells=cells)(M:L.length=i):
  match gl P L cells i d with
  | .error e=>ir (D.dec d) e
  | .ok (P',L',cells')=>hq (D.dec d) P' L' 0 0 0/\P'.stmts=0/\(D.dec d).cells=cells'/\L'.length=i+1/\P'.threads.length=P.threads.length+(if d.kind=6 then 1 else 0):=by
 obtain⟨J,K,kv,-⟩:=qy Z
 have C:D.P=P:=by rw[h.prog,<-A]
 unfold gl DF.dec
 by_cases Q:(ex L d.name).isSome=true
 .let ⟨x,U⟩:=IX.1 Q
  obtain⟨j,Y,-⟩:=jN h.names h.nd U
  simp only[aD Q]
  rw[Y,aD (show (some j).isSome=true from rfl)]
  exact dD h.CR (e:=130) (by decide) _
 have F:ex L d.name=none:=by
  cases U:ex L d.name with
  |none=>rfl
  |some x=>rw[U]at Q;simp at Q
 rw[jy h.names _ F]
 simp only[am Q,Option.isSome_none,FN,if_false]
 by_cases G:d.kind=1
 .have:=kv G
  simp only[aD G,am (show ¬ (d.num< -2147483648∨2147483647<d.num) by omega)]
  have E:hq ({D with P:={D.P with vars:=D.P.vars++[d.num],nv:=D.P.nv++[d.name]}}:DF) {P with vars:=P.vars++[d.num],nv:=P.nv++[d.name]} L 0 0 0:=⟨h.CR,h.names,by show (⟨_,_,_,_,_,_,_,_,_,_,_,_,_⟩:Pg)=_;rw[C,A],h.locals,h.CY,h.nd,h.kd⟩
  have g:=iC (n:=D.P.vars.length) d E M J K F
  by_cases w:64<=i
  .rw[aD w]at g
   simp only[aD w]
   exact g
  .rw[am w]at g
   simp only[am w]
   rw[C]at g ⊢
   exact⟨g.1,A,g.2.1.trans H,g.2.2,by rw[am (by omega)];rfl⟩
 by_cases R:d.kind=2
 .simp only[am G,aD R]
  rw[H]
  by_cases N:d.num<1∨256<d.num∨256<cells+d.num
  .simp only[aD N]
   exact dD h.CR (e:=134) (by decide) _
  simp only[am N]
  have E:hq ({D with cells:=cells+d.num,P:={D.P with CW:=D.P.CW++[d.num],na:=D.P.na++[d.name]}}:DF) {P with CW:=P.CW++[d.num],na:=P.na++[d.name]} L 0 0 0:=⟨h.CR,h.names,by show (⟨_,_,_,_,_,_,_,_,_,_,_,_,_⟩:Pg)=_;rw[C,A],h.locals,h.CY,h.nd,h.kd⟩
  have g:=iC (n:=D.P.CW.length) d E M J K F
  by_cases w:64<=i
  .rw[aD w]at g
   simp only[aD w]
   exact g
  .rw[am w]at g
   simp only[am w]
   rw[C]at g ⊢
   exact⟨g.1,A,g.2.1,g.2.2,by rw[am (by omega)];rfl⟩
 by_cases S:d.kind=3
 .simp only[am G,am R,aD S]
  have E:hq ({D with P:={D.P with CT:=D.P.CT+1,nm:=D.P.nm++[d.name]}}:DF) {P with CT:=P.CT+1,nm:=P.nm++[d.name]} L 0 0 0:=⟨h.CR,h.names,by show (⟨_,_,_,_,_,_,_,_,_,_,_,_,_⟩:Pg)=_;rw[C,A],h.locals,h.CY,h.nd,h.kd⟩
  have g:=iC (n:=D.P.CT) d E M J K F
  by_cases w:64<=i
  .rw[aD w]at g
   simp only[aD w]
   exact g
  .rw[am w]at g
   simp only[am w]
   rw[C]at g ⊢
   exact⟨g.1,A,g.2.1.trans H,g.2.2,by rw[am (by omega)];rfl⟩
 by_cases V:d.kind=4
 .simp only[am G,am R,am S,aD V]
  have E:hq ({D with P:={D.P with conds:=D.P.conds+1,nc:=D.P.nc++[d.name]}}:DF) {P with conds:=P.conds+1,nc:=P.nc++[d.name]} L 0 0 0:=⟨h.CR,h.names,by show (⟨_,_,_,_,_,_,_,_,_,_,_,_,_⟩:Pg)=_;rw[C,A],h.locals,h.CY,h.nd,h.kd⟩
  have g:=iC (n:=D.P.conds) d E M J K F
  by_cases w:64<=i
  .rw[aD w]at g
   simp only[aD w]
   exact g
  .rw[am w]at g
   simp only[am w]
   rw[C]at g ⊢
   exact⟨g.1,A,g.2.1.trans H,g.2.2,by rw[am (by omega)];rfl⟩
 by_cases X:d.kind=5
 .simp only[am G,am R,am S,am V,aD X]
  by_cases N:d.num<1∨16<d.num
  .simp only[aD N]
   exact dD h.CR (e:=134) (by decide) _
  simp only[am N]
  have E:hq ({D with P:={D.P with CX:=D.P.CX++[d.num],nh:=D.P.nh++[d.name]}}:DF) {P with CX:=P.CX++[d.num],nh:=P.nh++[d.name]} L 0 0 0:=⟨h.CR,h.names,by show (⟨_,_,_,_,_,_,_,_,_,_,_,_,_⟩:Pg)=_;rw[C,A],h.locals,h.CY,h.nd,h.kd⟩
  have g:=iC (n:=D.P.CX.length) d E M J K F
  by_cases w:64<=i
  .rw[aD w]at g
   simp only[aD w]
   exact g
  .rw[am w]at g
   simp only[am w]
   rw[C]at g ⊢
   exact⟨g.1,A,g.2.1.trans H,g.2.2,by rw[am (by omega)];rfl⟩
 have W:d.kind=6:=by omega
 simp only[am G,am R,am S,am V,am X]
 rw[aD W,aD W]
 have E:hq ({D with P:={D.P with threads:=D.P.threads++[⟨d.name,0,[]⟩]}}:DF) {P with threads:=P.threads++[⟨d.name,0,[]⟩]} L 0 0 0:=⟨h.CR,h.names,by show (⟨_,_,_,_,_,_,_,_,_,_,_,_,_⟩:Pg)=_;rw[C,A],h.locals,h.CY,h.nd,h.kd⟩
 have g:=iC (n:=D.P.threads.length) d E M J K F
 by_cases w:64<=i
 .rw[aD w]at g
  simp only[aD w]
  exact g
 .rw[am w]at g
  simp only[am w]
  rw[C]at g ⊢
  exact⟨g.1,A,g.2.1.trans H,g.2.2,by simp⟩
def jq(l:List De):List (List St):=(l.filter fun d=>decide (d.kind=6)).map (·.body)
theorem jb(d:De)(l:List De):jq (d::l)=if d.kind=6 then d.body::jq l else jq l:=by
 unfold jq;rw[List.filter_cons];by_cases h:d.kind=6
 .rw[aD (by simpa using h),aD h];rfl
 .rw[am (by simpa using h),am h]
theorem rE(h:D.CR≠0)(l:List De):DF.Du l D=D:=by
 cases l with
 |nil=>rfl
 |cons d r=>rw[DF.Du,aD h]
theorem ox{nm:ByteArray->Bool}:∀ (l:List De) {D:DF} {P:Pg} {L:List Nm} {i:Nat} {cells:Int},(∀d∈l,fI nm d=true)->hq D P L 0 0 0->P.stmts=0->D.cells=cells->L.length=i->
  match jr P L cells i l with
  | .error e=>ir (DF.Du l D) e
  | .ok (g,A)=>hq (DF.Du l D) g A 0 0 0/\g.stmts=0/\DF.DN l D=jq l/\g.threads.length=P.threads.length+(jq l).length
 | [],D,P,L,i,cells,_,h,h0,_,_=>⟨h,h0,z,z⟩
 |d::r,D,P,L,i,cells,hR,h,h0,hc,hL=>by
  rw[DF.Du,DF.DN,jr,am (by rw[h.CR];decide),am (by rw[h.CR];decide)]
  have hd:=vc d (hR d (by simp)) h h0 hc hL
  cases E:gl P L cells i d with
  |error e=>
   rw[E]at hd
   have w:=hd
   show ir (DF.Du r (D.dec d)) e
   rw[rE (by rw[w.2.1];exact w.1)]
   exact w
  |ok q=>
   rw[E]at hd
   let ⟨g,A,K⟩:=q
   let ⟨N,R,F,S,H⟩:=hd
   have j:=ox r (fun d hd=>hR d (by simp[hd])) N R F S
   simp only
   cases C:jr g A K (i+1) r with
   |error e=>
    rw[C]at j
    exact j
   |ok q=>
    rw[C]at j
    let ⟨U,V⟩:=q
    let ⟨M,G,Q,J⟩:=j
    refine⟨M,G,?_,?_⟩
    .rw[Q,jb]
    .rw[J,H,jb]
     split
     .simp
      omega
     .rfl
def kW(L:List Nm):Nat->List (List St)->Except fT (List (List St×Nat)×Nat)
 |n,[]=> .ok ([],n)
 |n,b::r=>match cb L 0 n 0 b with
   | .error e=> .error e
   | .ok (b',n2,mo)=>match kW L n2 r with
    | .error e=> .error e
    | .ok (l,n3)=> .ok ((b',mo)::l,n3)
theorem mU(L:List Nm):∀ (l:List De) (n:Nat),gS L n l=kW L n (jq l)
 | [],_=>rfl
 |d::r,n=>by
  rw[gS,jb]
  by_cases h:d.kind=6
  .rw[aD h,aD h,kW]
   cases cb L 0 n 0 d.body with
   |error e=>rfl
   |ok q=>
    let ⟨b,n2,mo⟩:=q
    simp only
    rw[mU L r n2]
    rfl
  .rw[am h,am h]
   exact mU L r n
theorem er(h:D.CR≠0)(i:Nat)(l:List (List St)):DF.Eh i l D=D:=by
 cases l with
 |nil=>rfl
 |cons d r=>rw[DF.Eh,aD h]
theorem qv{nm:ByteArray->Bool}{P:Pg}{L:List Nm}:∀ (bl:List (List St)) {D:DF} {n mo i:Nat} {j g:List Th},(∀b∈bl,bB nm b 1=true/\St.cls b)->hq D {P with threads:=j++g} L n 0 mo->n<=512->j.length=i->bl.length<=g.length->
  match kW L n bl with
  | .error e=>ir (DF.Eh i bl D) e
  | .ok (E,n2)=>∃G,hq (DF.Eh i bl D) {P with threads:=j++df g E} L n2 0 G
 | [],D,n,mo,i,j,g,_,h,_,_,_=>⟨mo,by
   have:df g []=g:=by cases g<;>rfl
   rw[this]
   exact h⟩
 |b::r,D,n,mo,i,j,g,hb,h,hn,hi,hlen=>by
  rw[DF.Eh,kW,am (by rw[h.CR];decide)]
  have J:hq {D with CY:=0} {P with threads:=j++g} L n 0 0:=⟨h.CR,h.names,h.prog,h.locals,z,h.nd,h.kd⟩
  have F:=jC nm b (hb b (by simp)).1 (hb b (by simp)).2 J (by omega) hn
  unfold DF.CV
  cases M:cb L 0 n 0 b with
  |error e=>
   rw[M]at F
   have H:=F
   have R:(DF.Ej ((DF.Dp b {D with CY:=0}).1.back {D with CY:=0}) i (DF.Dp b {D with CY:=0}).2).CR≠0:=by
    show (DF.Dp b {D with CY:=0}).1.CR≠0
    rw[H.2.1]
    exact H.1
   show ir (DF.Eh (i+1) r _) e
   rw[er R]
   exact H
  |ok q=>
   rw[M]at F
   let ⟨b',n2,A⟩:=q
   let ⟨Y,L',a0,h2,N⟩:=F
   have w:=J.back h2
   simp only
   cases g with
   |nil=>simp at hlen
   |cons t g=>
    have X:hq (DF.Ej ((DF.Dp b {D with CY:=0}).1.back {D with CY:=0}) i (DF.Dp b {D with CY:=0}).2) {P with threads:=(j++[⟨t.name,A,b'⟩])++g} L n2 0 A:=by
     refine⟨w.CR,w.names,?_,w.locals,w.CY,w.nd,w.kd⟩
     unfold DF.Ej
     have V:=w.prog
     have W:=w.CY
     rw[V,W,Y]
     have e3:(j++t::g).getD i default=t:=by rw[<-hi];simp
     have S:∀x,(j++t::g).set i x=(j++[x])++g:=by intro x;rw[<-hi];simp
     simp only[e3,S]
    have C:=qv r (i:=i+1) (fun b U=>hb b (by simp[U])) X N (by simp[hi]) (by simp at hlen;omega)
    cases K:kW L n2 r with
    |error e=>
     rw[K]at C
     exact C
    |ok q=>
     rw[K]at C
     let ⟨E,n3⟩:=q
     let ⟨G,C⟩:=C
     refine⟨G,?_⟩
     have Z:df (t::g) ((b',A)::E)=⟨t.name,A,b'⟩::df g E:=z
     rw[Z]
     have Q:j++Th.mk t.name A b'::df g E=(j++[Th.mk t.name A b'])++df g E:=by simp
     rw[Q]
     exact C
theorem nZ{nm:ByteArray->Bool}{l:List De}(F:co nm l=true)(Z:∀d∈l,St.cls d.body):fg l=cW l:=by
 unfold co at F;rw[List.all_eq_true]at F;have S:hq ii fz [] 0 0 0:=⟨z,z,z,z,z,by simp,by simp⟩;have hd:=ox l F S z (show ii.cells=0 from z) (i:=0) z;unfold fg cW;cases Q:jr fz [] 0 0 l with
 |error e=>
  rw[Q]at hd;have H:=hd;have w:(DF.Du l ii).CR≠0:=by rw[H.2.1];exact H.1
  have C:(DF.Du l ii).Dj=DF.Du l ii:=by unfold DF.Dj;rw[am fun h=>w h.1]
  simp only[C,er w];rw[aD w,H.2.1,H.2.2]
 |ok q=>
  rw[Q]at hd;let ⟨P,L⟩:=q
  let ⟨j,h2,R,W⟩:=hd
  simp only;cases C:ex L fh with
  |none=>
   have D:=jy j.names fh C;have E:(DF.Du l ii).Dj=(DF.Du l ii).DA 133 (0,0):=by unfold DF.Dj DF.Ev;rw[D,aD ⟨j.CR,rfl⟩]
   have g:=dD j.CR (e:=133) (by decide) (0,0);have w:((DF.Du l ii).DA 133 (0,0)).CR≠0:=by rw[g.2.1];exact g.1
   simp only[E,er w];rw[aD w,g.2.1,g.2.2]
  |some x=>
   let ⟨i,D,J⟩:=jN j.names j.nd C
   have a1:=j.kd x (qi C);by_cases K:x.kind≠6
   .have E:(DF.Du l ii).Dj=(DF.Du l ii).DA 133 (0,0):=by
     unfold DF.Dj DF.Ev;refine aD ⟨j.CR,?_⟩;rw[D];show decide _=true;rw[J,decide_eq_true_eq];unfold gz;show ¬ (if x.kind=0 then 100 else x.kind)=6;split
     .decide
     .exact K
    have g:=dD j.CR (e:=133) (by decide) (0,0);have w:((DF.Du l ii).DA 133 (0,0)).CR≠0:=by rw[g.2.1];exact g.1
    simp only[E,er w];rw[aD w,g.2.1,g.2.2,aD K]
   .have U:x.kind=6:=by omega
    have E:(DF.Du l ii).Dj=DF.Du l ii:=by unfold DF.Dj DF.Ev;rw[D,am];rintro⟨-,h⟩;have h:decide (((DF.Du l ii).names.getD i hA).kind≠6)=true:=h;rw[J,decide_eq_true_eq]at h;apply h;unfold gz;show (if x.kind=0 then 100 else x.kind)=6;rw[am (by omega)];exact U
    simp only[E,am K,R];have Y:hq (DF.Du l ii) {P with threads:=[]++P.threads} L 0 0 0:=j;have V:∀b∈jq l,bB nm b 1=true/\St.cls b:=by
     intro b g;unfold jq at g;obtain⟨d,hd,rfl⟩:=HM.1 g;let ⟨N,a0⟩:=List.mem_filter.1 hd
     exact⟨(qy (F d N)).2.2.2 (by simpa using a0),Z d N⟩
    have A:=qv (jq l) (i:=0) V Y (by omega) z (by rw[W];omega);rw[mU];cases M:kW L 0 (jq l) with
    |error e=>
     rw[M]at A;have G:=A;rw[aD (by rw[G.2.1];exact G.1),G.2.1,G.2.2]
    |ok q=>
     rw[M]at A;let ⟨bs,n⟩:=q
     let ⟨mo,A⟩:=A
     rw[am (by rw[A.CR];decide),A.prog,D];have X:(DF.Eh 0 (jq l) (DF.Du l ii)).names.getD i hA=gz x:=by rw[A.names,<-j.names];exact J
     simp only[HS,X];rfl
theorem iN{e:Int}(g:e≠0)(p:Int×Int):(D.DA e p).CR≠0:=by
 unfold DF.DA;split
 .exact g
 .assumption
structure sO (D:DF):Prop where
 c:D.P.vars.length+D.P.CW.length+D.P.CX.length+D.P.threads.length+D.P.CT+D.P.conds<=D.names.length
 v:D.P.nv.length=D.P.vars.length/\D.P.na.length=D.P.CW.length/\D.P.nm.length=D.P.CT/\D.P.nc.length=D.P.conds/\D.P.nh.length=D.P.CX.length
 cells:0<=D.cells/\D.cells<=256
 body:∀t∈D.P.threads,t.body=[]
 zero:D.locals=0/\D.CY=0/\D.P.stmts=0
 names:D.names.length<=64
theorem sO.vi(h:sO D):Cm D:=by obtain⟨C,E,g,w,j,A⟩:=h;exact⟨A,by omega,g,w,j⟩
theorem hg(d:De)(n:Nat)(g:(D.Eb d n).CR=0)(A:D.P.vars.length+D.P.CW.length+D.P.CX.length+D.P.threads.length+D.P.CT+D.P.conds<=D.names.length+1)(C:D.P.nv.length=D.P.vars.length/\D.P.na.length=D.P.CW.length/\D.P.nm.length=D.P.CT/\D.P.nc.length=D.P.conds/\D.P.nh.length=D.P.CX.length)(j:0<=D.cells/\D.cells<=256)(E:∀t∈D.P.threads,t.body=[])(w:D.locals=0/\D.CY=0/\D.P.stmts=0):sO (D.Eb d n)/\(D.Eb d n).P=D.P:=by
 unfold DF.Eb at g ⊢;split at g
 .exact absurd g (iN (by decide) _)
 .rename_i F;rw[am F];exact⟨⟨by simpa using A,C,j,E,w,by show (D.names++[_]).length<=64;simp;omega⟩,z⟩
theorem wK(d:De)(h:sO D)(R:1<=d.kind)(U:d.kind<=6)(g:(D.dec d).CR=0):sO (D.dec d)/\(D.dec d).P.threads.length=D.P.threads.length+(if d.kind=6 then 1 else 0):=by
 obtain⟨Q,E,G,A,C,S⟩:=h;unfold DF.dec at g ⊢;by_cases N:(D.at d.name).isSome=true
 .rw[aD N]at g;exact absurd g (iN (by decide) _)
 rw[am N]at g ⊢;by_cases K:d.kind=1
 .rw[aD K]at g ⊢;split at g
  .exact absurd g (iN (by decide) _)
  .rename_i H;rw[am H];obtain⟨w,j⟩:=hg d _ g (by simp;omega) (by simpa using E) G A C;exact⟨w,by rw[j,am (by omega)];rfl⟩
 rw[am K]at g ⊢;by_cases M:d.kind=2
 .rw[aD M]at g ⊢;split at g
  .exact absurd g (iN (by decide) _)
  .rename_i H;rw[am H];obtain⟨w,j⟩:=hg d _ g (by simp;omega) (by simpa using E) (by show 0<=D.cells+d.num/\D.cells+d.num<=256;omega) A C;exact⟨w,by rw[j,am (by omega)];rfl⟩
 rw[am M]at g ⊢;by_cases k3:d.kind=3
 .rw[aD k3]at g ⊢;obtain⟨w,j⟩:=hg d _ g (by simp;omega) (by simpa using E) G A C;exact⟨w,by rw[j,am (by omega)];rfl⟩
 rw[am k3]at g ⊢;by_cases k4:d.kind=4
 .rw[aD k4]at g ⊢;obtain⟨w,j⟩:=hg d _ g (by simp;omega) (by simpa using E) G A C;exact⟨w,by rw[j,am (by omega)];rfl⟩
 rw[am k4]at g ⊢;by_cases k5:d.kind=5
 .rw[aD k5]at g ⊢;split at g
  .exact absurd g (iN (by decide) _)
  .rename_i H;rw[am H];obtain⟨w,j⟩:=hg d _ g (by simp;omega) (by simpa using E) G A C;exact⟨w,by rw[j,am (by omega)];rfl⟩
 rw[am k5]at g ⊢;have J:d.kind=6:=by omega
 rw[aD J]at g ⊢;obtain⟨w,j⟩:=hg d _ g (by simp;omega) E G (by
  intro t F;rcases GG.1 F with F|F
  .exact A t F
  .simp at F;rw[F]) C
 exact⟨w,by rw[j,aD J];simp⟩
theorem sd:sO ii:=⟨by decide,by decide,by decide,by simp[ii,fz],by decide,by decide⟩
theorem sO.iv(h:sO D):hz D:=⟨by rw[h.zero.1];decide,by rw[h.zero.2.1];decide,by have:=h.names;omega,fun _=>⟨by rw[h.zero.1];decide,by rw[h.zero.2.2];decide⟩⟩
mutual
theorem ym:∀ (s:St) (D:DF),(DF.st s D).1.P.threads=D.P.threads
 | .mk k l c s t x y body els id sl ot lo,D=>by
  rw[DF.st]
  split
  .exact congrArg Pg.threads (gb D (e:=134) (by decide) (l,c)).P
  .have h1:=jz body (((DF.ex (l,c) x (DF.ex (l,c) y D.inc).1).1.DR (l,c) k s t sl ot lo).1)
   have h2:=jz els ((DF.Dp body ((DF.ex (l,c) x (DF.ex (l,c) y D.inc).1).1.DR (l,c) k s t sl ot lo).1).1.back ((DF.ex (l,c) x (DF.ex (l,c) y D.inc).1).1.DR (l,c) k s t sl ot lo).1)
   rw[xB,(go (l,c) x _).P,(go (l,c) y _).P]at h1
   exact h2.trans h1
theorem jz:∀ (r:List St) (D:DF),(DF.Dp r D).1.P.threads=D.P.threads
 | [],D=>by rw[DF.Dp]
 |s::r,D=>by
  rw[DF.Dp]
  split
  .rfl
  .exact(jz r _).trans (ym s D)
end
theorem uG(l:List St)(D:DF):(DF.CV l D).1.P.threads=D.P.threads:=jz l D
def ei(ok:Nat->Prop)(w:Fk)(P:Pg)(ps:List Fr):Prop:=∃v0 v1 v4 v5 n0 n1 n2 n3 n4,ps=fU P v0 v1 v4 v5 n0 n1 n2 n3 n4 []/\pu ok w P v0 v1 v4 v5 n0 n1 n2 n3 n4
def lh(w:Fk)(R:Pg× (Int×Int)×Int)(e:GP)(w':Fk):Prop:=(∃ps,e= .returned (.tuple #[.agg ps.toArray,.agg #[.int .i64 R.2.1.1,.int .i64 R.2.1.2],.int .i64 R.2.2])/\ei (w.1.size<=·) w' R.1 ps)/\FM w.1.size w w'
def fm:List Fr:=[.slice none 0 0,.slice none 0 0,.int .i64 0,.int .i64 0,.slice none 0 0,.slice none 0 0,.int .i64 0,.int .i64 0,.slice none 0 0,.slice none 0 0,.slice none 0 0,.slice none 0 0,.slice none 0 0]
theorem hJ:∃i z,prog.info? 30=some i/\i.zero=some z/\z.cells=fm.toArray:=fH (by kernel_rfl)
theorem bN:(prog.info? 30).map (·.size)=some 13:=by kernel_rfl
theorem eI:∃d,prog.underlying 30=some d/\d.isRow=true:=by
 have h:(prog.underlying 30).map (·.isRow)=some true:=by kernel_rfl
 let ⟨d,j,g⟩:=Ga.1 h
 exact⟨d,j,g⟩
theorem hG:∃i z,prog.info? 32=some i/\i.zero=some z/\z.cells=[Gr .i64 0,I 0].toArray:=fH (by kernel_rfl)
theorem br:(prog.info? 32).map (·.size)=some 2:=by kernel_rfl
theorem gW:∃d,prog.underlying 32=some d/\d.isRow=true:=by
 have h:(prog.underlying 32).map (·.isRow)=some true:=by kernel_rfl
 let ⟨d,j,g⟩:=Ga.1 h
 exact⟨d,j,g⟩
theorem eQ(ok:Nat->Prop)(w:Fk):ei ok w fz fm:=⟨_,_,_,_,_,_,_,_,_,z,⟨Ro.nil _ _ _,Ro.nil _ _ _,Ro.nil _ _ _,Ro.nil _ _ _,Ro.nil _ _ _,Ro.nil _ _ _,Ro.nil _ _ _,Ro.nil _ _ _,Ro.nil _ _ _⟩⟩
theorem ei.keep{ok:Nat->Prop}{w':Fk}{P:Pg}(E:∀ (b o:Nat) (u:Fr),ok b->w.cell? (ad b o)=some u->w'.cell? (ad b o)=some u)(h:ei ok w P l2):ei ok w' P l2:=by
 let ⟨G,C,j,g,A,n1,n2,n3,n4,F,D⟩:=h
 exact⟨G,C,j,g,A,n1,n2,n3,n4,F,D.keep E⟩
theorem ei.CQ{ok ok':Nat->Prop}{P:Pg}(E:∀b,ok b->ok' b)(h:ei ok w P l2):ei ok' w P l2:=by
 let ⟨G,C,j,g,A,n1,n2,n3,n4,F,D⟩:=h
 exact⟨G,C,j,g,A,n1,n2,n3,n4,F,D.CQ E⟩
theorem ei.cells{ok:Nat->Prop}{P:Pg}(h:ei ok w P l2):l2.length=13/\∀v∈l2,v.oneCell'=true:=by obtain⟨E,D,A,j,C,n1,n2,n3,n4,rfl,h⟩:=h;refine⟨z,fun v g=>?_⟩;simp only[fU,FQ,FO,or_false]at g;rcases g with rfl|rfl|rfl|rfl|rfl|rfl|rfl|rfl|rfl|rfl|rfl|rfl|rfl;all_goals first|rfl|exact h.vars.one|exact h.CW.one|exact h.CX.one|exact h.threads.one|exact h.nv.one|exact h.na.one|exact h.nm.one|exact h.nc.one|exact h.nh.one
section
variable {w0 w W W':Fk} {p0 q0:Nat} {cs:List Fr} {ok:Nat→Prop} {D:DF}
theorem aG.prog(h:aG ok w D cs)(m:Nat):∃j H,cs.set 6 (I m)=j++H/\ei ok w {D.P with main:=m} j:=by obtain⟨J,G,E,A,F,n1,n2,n3,n4,C,rfl,g,K⟩:=h;exact⟨_,[C,I D.cells,I D.locals,I D.CY,I D.pos.1,I D.pos.2,I D.CR],z,J,G,E,A,F,n1,n2,n3,n4,z,⟨g.vars,g.CW,g.CX,g.threads,g.nv,g.na,g.nm,g.nc,g.nh⟩⟩
theorem aG.c6(h:aG ok w D cs):cs[6]? =some (I D.P.main):=by obtain⟨H,F,A,g,C,n1,n2,n3,n4,j,rfl,G,E⟩:=h;rfl
structure Fq (w0:Fk) (p0 q0:Nat) (w:Fk) (cs:List Fr) (W:Fk):Prop where
 o:FM w0.1.size w0 w
 h:w0.1.size<=p0/\p0<w.1.size/\w0.1.size<=q0/\q0<w.1.size/\p0≠q0
 b:FM w.1.size w W
 p:ak W p0 30 fm
 q:ak W q0 32 [.int .i64 0,.int .i64 0]
 f:ak W w.1.size 109 cs
def ew(w W:Fk)(c:Nat):Prop:=w.1.size+1<=c/\c<W.1.size
theorem Fq.lt(h:Fq w0 p0 q0 w cs W):w.1.size+1<=W.1.size:=by have:=h.f.lt;omega
theorem Fq.DV(h:Fq w0 p0 q0 w cs W)(g:FM (w.1.size+1) W W'):Fq w0 p0 q0 w cs W':=⟨h.o,h.h,h.b.trans (g.mono (by omega)),h.p.of (g.block _ (by have:=h.h;omega)),h.q.of (g.block _ (by have:=h.h;omega)),h.f.of (g.block _ (by omega))⟩
theorem Fq.below(h:Fq w0 p0 q0 w cs W)(g:bL W W'):Fq w0 p0 q0 w cs W':=h.DV (g.mono h.lt)
theorem Fq.Dc(h:Fq w0 p0 q0 w cs W)(j:ak W' w.1.size 109 l2)(g:Ch w.1.size W W'):Fq w0 p0 q0 w l2 W':=⟨h.o,h.h,g.below (FL _) h.b,g.CV (by have:=h.h;omega) h.p,g.CV (by have:=h.h;omega) h.q,j⟩
theorem Fq.EU(h:Fq w0 p0 q0 w cs W):bL w0 W:=h.o.trans (h.b.mono h.o.size)
theorem lK(h:aG (ew w W) W D cs)(g:bL W W'):aG (ew w W') W' D cs:=(h.below g).CQ fun _ j=>⟨j.1,FJ j.2 g.size⟩
theorem hT(h:aG (ew w W) W D cs)(j:Ch b W W')(A:b<w.1.size+1):aG (ew w W') W' D cs:=(j.df (fun e=>by have:=e.1;omega) h).CQ fun c g=>⟨g.1,by rw[j.size];exact g.2⟩
end
theorem ga{T g:TypeId}{d j:TypeDesc}(V:prog.underlying T=some d)(E:d.isRow=true)(H:(prog.info? T).map (·.size)=some n)(C:prog.underlying g=some j)(U:j.isRow=true)(X:(prog.info? g).map (·.size)=some n2){w:Func}{R:GP->Fk->Prop}{b2:Nat}{s s2 u:Tmp}{cs:List Fr}(h:ak W b T cs)(Y:cs.length=n)(M:ak W b2 g l2)(D:l2.length=n2)(K:w.results= #[.cell s T,.cell s2 g,.tmp u])
  (Q:A.tmps.getD s Gm=Pt b)(G:A.tmps.getD s2 Gm=Pt b2)(Z:A.tmps.getD u Gm=v)(hd:A.defers=[])(hR:R (.returned (.tuple #[.agg cs.toArray,.agg l2.toArray,v])) W):Gb prog w R .ret A W:=by
 have J:A.tmps[s]?.getD Gm=Pt b:=by rw[<-Q];simp
 have S:A.tmps[s2]?.getD Gm=Pt b2:=by rw[<-G];simp
 have F:A.tmps[u]?.getD Gm=v:=by rw[<-Z];simp
 have a0:=run_loadVar_mid (P:=prog) W b 0 T cs d h.whole V E (by rw[Y];exact H);have N:=run_loadVar_mid (P:=prog) W b2 0 g l2 j M.whole C U (by rw[D];exact X);refine bodyPost_ret (v:= .tuple #[.agg cs.toArray,.agg l2.toArray,v]) ?_ hd hR;simp[results,K,J,S,F,asAddr,a0,N]
theorem cl(a b:Int):[Gr .i64 a,I b].length=2/\∀v∈ [Gr .i64 a,I b],v.oneCell'=true:=⟨z,fun v g=>by simp only[FQ,FO,or_false]at g;rcases g with rfl|rfl<;>rfl⟩
def rg(F:DF)(at9:Option Nat):Pg× (Int×Int)×Int:=if F.CR≠0 then (fz,F.pos,F.CR) else ({F.P with main:=(F.names.getD (at9.getD 0) hA).slot},(0,0),0)
theorem mc{F:DF}{cs:List Fr}{N:Option Nat}(A:Hid (Fq w0 j n0 w cs W))(HL:Hid (cs.length=20/\∀v∈cs,v.oneCell'=true))(e8:Hid (cs[17]? =some (I F.pos.1)/\cs[18]? =some (I F.pos.2)/\cs[19]? =some (I F.CR)))(d1:Hid (F.CR=0->aG (ew w W) W F cs))(E:F.CR=0->∃i,N=some i/\i<F.names.length)(hU:l2.length=121:=by rfl):
  FR prog (Jp 8 (f15.body.getD .skip)) (Gb prog f15 (lh w0 (rg F N))) ⟨(v0::v1::Pt j::Pt n0::v2::Pt w.1.size::v3::v4::I (qN N)::l2).toArray,[]⟩ W:=by
 revert l2;apply aN;iterate 121 intro _
 change FR _ _ _ _ _;let ⟨du,e2,e3⟩:=cd
 let ⟨d8,a2,a3⟩:=eI
 let ⟨e5,d0,b8⟩:=gW
 have d3:prog.follows .mixedOrders=true:=by kernel_rfl
 obtain⟨R,C⟩:=eX (rg F N);rw[C];unfold rg at C;obtain⟨fl,a1⟩:=eX F.CR;have c19:=(A.f.cell 19).trans e8.2.2;rw[a1]at c19 C E d1;have e7:=O a1;clear a1;conv in (Jp _ _)=>whnf
 by_cases h0:fl=0;rotate_left
 .have c17:=e8.1;have c18:=e8.2.1;obtain⟨⟨px,py⟩,e9⟩:∃x,F.pos=x:=⟨_,z⟩;rw[e9]at c17 c18;rw[aD h0,e9]at C;have HR:=O C;have Y:=O (EQ c17 (EQ c18 ((A.f.cell 19).symm.trans c19)));clear C e9 c17 c18 E;go_wp2;obtain⟨X,hV⟩:=eX W.drew;have G:Hid (Fq w0 j n0 w cs X):=O (by rw[<-hV];exact A.below (FB _ W).drew);clear A c19;apply al [] (fun W=>ak W w.1.size 109 cs) d3;rw[hV];clear hV;have K:Hid (ak X w.1.size 109 cs):=O G.f;refine nk 0 ?_;refine fK _ 2 (fun W1 V=>EQ ((V.cell 17).trans Y.o.1) ((V.cell 18).trans Y.o.2.1)) ?_;refine fa 3 ?_;refine nm ?_;refine fK _ 4 (fun W1 V=> (V.cell 19).trans Y.o.2.2) ?_;refine nm ?_;refine oD 5 fun a5 H=>?_
  refine an bN (.tmp 2) (.tmp 114) z j fm _ z z G.p z ⟨z,by decide⟩ ?_;intro W7 k7 c7;have M:=O (EQ k7 c7);clear k7 c7;have hh:=G.h;have b4:=O (M.2.CV (by omega) G.f);apply H _ _ (fun _=>b4);clear H a5;refine oD 6 fun a5 H=>?_;refine an br (.tmp 3) (.tmp 116) z n0 [I px,I py] _ z z (M.2.CV (by omega) G.q) z (cl px py) ?_;intro W8 k8 c8;have U:=O (EQ k8 c8);clear k8 c8;have c9:=O (U.2.CV (by omega) b4);apply H _ _ (fun _=>c9);clear H a5;refine fa 7 ?_;refine nm ?_;refine dn ?_;go_wp2;refine ga a2 a3 bN d0 b8 br (U.2.CV (by omega) M.1) z U.1 z z z z z z ?_;rw[<-HR.o];exact⟨⟨fm,z,eQ _ _⟩,U.2.below (by omega) (M.2.below (by omega) G.EU)⟩
 .subst h0;obtain⟨i,rfl,hi⟩:=E z;have Z:=O (d1.o z);rw[am (by decide)]at C;obtain⟨va,d9,b5,d7⟩:=Z.o.Ff;have c13:=(A.o.f.cell 13).trans b5;have c6:=(A.o.f.cell 6).trans Z.o.c6;have g6:=A.o.f.frozen 6;obtain⟨x,hx⟩:∃x,F.names[i]? =some x:=⟨_,FC hi⟩;have a9:F.names.getD i hA=x:=by rw[FD,hx];rfl
  obtain⟨a',e1,d6,-,E⟩:=d7;cases d6;obtain⟨g,d2,xs,rfl,-,a6,a8⟩:=E i x hx;have b7:xs=x.cells:=a8;rw[b7]at a6;have x2:W.cell? ⟨g,d2+i*3+2,none⟩=some (I x.slot):=a6 2 _ z;have e0:(0:Int)<=(i:Int):=by omega
  have e6:(i:Int)< (F.names.length:Int):=by omega
  have b6:({F.P with main:=x.slot},((0:Int),(0:Int)),(0:Int))=R:=by rw[<-C];simp only[HS,a9]
  have HR:=O b6;simp only[qN];clear C b6 E a6 a8 b7 a9 b5 hx;obtain⟨J,a7,b9,a0⟩:=Z.o.prog x.slot;have d5:=O b9;have d4:=O a0;have a4:=O a0.cells;clear b9 a0 g6;go_wp2_with (first
   | ((with_reducible refine cY (.store 3 (.tmp 126) _) ?_);refine az (by kernel_rfl) z (.tmp 126) (.tmp 124) z w.1.size 6 109 (I x.slot) cs z z z z A.o.f (by rw[HL.o.1];decide) ?_;intro W2 k2 c2;have K2:Hid (ak W2 w.1.size 109 (J++a7)):=O (by rw[<-d5.o];exact k2);have C2:=O c2;have D:=O (A.o.Dc k2 c2);clear k2 c2 c13 c6 x2 c19)
   | ((with_reducible refine gU _ (.load 30 _) ?_);refine Gn z 30 (.tmp 127) z w.1.size 0 z J d8 (K2.o.range (pre:=[]) (mid:=J) (post:=a7) z) a2 a3 (by rw[a4.o.1];exact bN) ?_)
   | ((with_reducible refine cY (.store 30 _ _) ?_);refine af bN z (.tmp 2) (.tmp 128) z j J _ z z D.o.p z a4.o ?_;intro W3 k3 c3;have S:=O (EQ k3 c3);clear k3 c3)
   | ((with_reducible refine cY (.store 32 _ _) ?_);refine af br z (.tmp 3) (.tmp 129) z n0 [I 0,I 0] _ z z (S.o.2.CV (by have:=D.o.h;omega) D.o.q) z (cl 0 0) ?_;intro W4 k4 c4;have Q:=O (EQ k4 c4);clear k4 c4)
   |fail)
  refine ga a2 a3 bN d0 b8 br (Q.o.2.CV (by have:=D.o.h;omega) S.o.1) a4.o.1 Q.o.1 z z z z z z ?_;rw[<-HR.o];have hh:=D.o.h;have ho:=D.o.o.size;refine⟨⟨J,z,?_⟩,Q.2.below (by omega) (S.2.below (by omega) D.o.EU)⟩;refine ei.CQ (ok:=ew w W) (fun c hc=>FU (by omega) hc.1) (d4.keep fun b o u hb hu=>?_);have e4:=hb.1;rw[Q.o.2.cell (by omega),S.o.2.cell (by omega),C2.o.cell (by omega)];exact hu
theorem cM{g w:Type}{x:PR g}{k:g->Nat->PR w}{b:w}(h:ap x k=some (.ok (b,j))):∃a m,k a m=some (.ok (b,j))/\x=some (.ok (a,m)):=by
 rcases x with _| (i|⟨a,m⟩)
 .cases h
 .cases h
 .exact⟨a,m,h,z⟩
theorem gF{k:Int}{p:Int×Int}{x y:Ex}{b e:List St}(g:St.cls b)(j:St.cls e):St.cl (aP k p s t x y b e):=by unfold aP St.cl;exact⟨z,g,j⟩
theorem bK:St.cls []:=by unfold St.cls;trivial
theorem pI:∀ {a:List St} {s:St},St.cls a->s.cl->St.cls (a++[s])
 | [],s,_,h=>by
  rw[List.nil_append]
  unfold St.cls
  exact⟨h,bK⟩
 |x::r,s,ha,h=>by
  unfold St.cls at ha
  rw[List.cons_append]
  unfold St.cls
  exact⟨ha.1,pI ha.2 h⟩
theorem rp{T:List Wd}{p:Int×Int}{s:St}(h:aW T p k i=some (.ok (s,j))):s.cl:=by
 unfold aW at h;split at h
 .obtain⟨_,_,h,-⟩:=cM h;cases h;exact gF bK bK
 split at h
 .obtain⟨_,_,h,-⟩:=cM h;obtain⟨_,_,h,-⟩:=cM h;cases h;exact gF bK bK
 obtain⟨_,_,h,-⟩:=cM h;split at h
 .obtain⟨_,_,h,-⟩:=cM h;obtain⟨_,_,h,-⟩:=cM h;obtain⟨_,_,h,-⟩:=cM h;cases h;exact gF bK bK
 split at h
 .obtain⟨_,_,h,-⟩:=cM h;obtain⟨_,_,h,-⟩:=cM h;cases h;exact gF bK bK
 split at h
 .obtain⟨_,_,h,-⟩:=cM h;obtain⟨_,_,h,-⟩:=cM h;cases h;exact gF bK bK
 .obtain⟨_,_,h,-⟩:=cM h;cases h;exact gF bK bK
theorem pg{T:List Wd}{p:Int×Int}{s:St}(h:bU T p i=some (.ok (s,j))):s.cl:=by
 unfold bU at h;obtain⟨_,_,h,-⟩:=cM h;split at h
 .obtain⟨_,_,h,-⟩:=cM h;obtain⟨_,_,h,-⟩:=cM h;obtain⟨_,_,h,-⟩:=cM h;obtain⟨_,_,h,-⟩:=cM h;obtain⟨_,_,h,-⟩:=cM h;cases h;exact gF bK bK
 .obtain⟨_,_,h,-⟩:=cM h;obtain⟨_,_,h,-⟩:=cM h;obtain⟨_,_,h,-⟩:=cM h;cases h;exact gF bK bK
theorem AA(T:List Wd):∀f,
  (∀i l j,pB T f i=some (.ok (l,j))->St.cls l)/\(∀acc i l j,St.cls acc->hw T f acc i=some (.ok (l,j))->St.cls l)/\(∀i s j,pS T f i=some (.ok (s,j))->St.cl s):=by
 intro f;induction f with
 |zero=>exact⟨fun _ _ _ h=>by simp[pB]at h,fun _ _ _ _ _ h=>by simp[hw]at h,fun _ _ _ h=>by simp[pS]at h⟩
 |succ f D=>
  let ⟨g,A,G⟩:=D
  refine⟨fun i l j h=>?_,fun acc i l j C h=>?_,fun i s j h=>?_⟩
  .rw[pB]at h;obtain⟨_,k,h,-⟩:=cM h;exact A _ _ _ _ bK h
  .rw[hw]at h;split at h
   .cases h;exact C
   .let ⟨s,k,h,F⟩:=cM h
    exact A _ _ _ _ (pI C (G _ _ _ F)) h
  .rw[pS]at h;split at h
   .exact pg h
   split at h
   .cases h
   split at h
   .obtain⟨x,k,h,-⟩:=cM h;let ⟨b,m,h,w⟩:=cM h
    cases h;exact gF (g _ _ _ w) bK
   split at h
   .obtain⟨x,k,h,-⟩:=cM h;let ⟨b,m,h,w⟩:=cM h
    split at h
    .let ⟨c,q,h,E⟩:=cM h
     cases h;exact gF (g _ _ _ w) (g _ _ _ E)
    .cases h;exact gF (g _ _ _ w) bK
   .exact rp h
theorem zS{T:List Wd}{d:De}(h:pD T i=some (.ok (d,j))):St.cls d.body:=by
 unfold pD at h;split at h
 .cases h
 obtain⟨s,w,h,-⟩:=cM h;split at h
 .obtain⟨_,m,h,-⟩:=cM h;split at h
  .obtain⟨n,_,h,-⟩:=cM h;obtain⟨_,_,h,-⟩:=cM h;cases h;exact bK
  .obtain⟨n,_,h,-⟩:=cM h;obtain⟨_,_,h,-⟩:=cM h;cases h;exact bK
 split at h
 .obtain⟨n,_,h,-⟩:=cM h;obtain⟨_,_,h,-⟩:=cM h;cases h;exact bK
 split at h
 .let ⟨b,q,h,g⟩:=cM h
  cases h;exact(AA T _).1 _ _ _ g
 .obtain⟨_,_,h,-⟩:=cM h;cases h;exact bK
theorem zD(T:List Wd):∀f acc i l j,(∀d∈acc,St.cls d.body)->iA T f acc i=some (.ok (l,j))->∀d∈l,St.cls d.body:=by
 intro f;induction f with
 |zero=>intro acc i l j _ h;simp[iA]at h
 |succ f C=>
  intro acc i l j w h;rw[iA]at h;split at h
  .let ⟨d,k,h,A⟩:=cM h
   refine C _ _ _ _ ?_ h;intro e g;rcases GG.1 g with g|g
   .exact w e g
   .obtain rfl:e=d:=by simpa using g
    exact zS A
  .cases h;exact w
theorem kX(s:ByteArray):∀d∈ (bh s).1,St.cls d.body:=by
 unfold bh;split
 .split
  .rename_i l j w;split
   .intro d hd;cases hd
   .exact fun d g=>zD _ _ _ _ _ _ (fun d hd=>by cases hd) w d g
  .intro d hd;cases hd
  .intro d hd;cases hd
 .intro d hd;cases hd
def gn{α β:Type}(f:α->β):Except fT α->Except fT β
 | .error e=> .error e
 | .ok x=> .ok (f x)
theorem ha{j w A:Type}(f:j->w)(g:w->A)(r:Except fT j):gn g (gn f r)=gn (fun x=>g (f x)) r:=by cases r<;>rfl
theorem qH(L:List Nm)(p:Int×Int)(x:Ex)(r:List Ex):fN L p (x::r)=(match hM L p x with| .error e=> .error e| .ok y=>gn (y::·) (fN L p r)):=by
 rw[fN];cases hM L p x with
 |error e=>rfl
 |ok y=>cases fN L p r<;>rfl
def oP(L:List Nm)(p:Int×Int)(k:Int)(s:ByteArray)(sl:Int)(lo:Bool):Except fT (Int×Bool):=if k=2 then (hs L s 1 true p).map fun x=> ((x.slot:Int),decide (x.kind=0)) else if k=3 then (hs L s 2 false p).map fun x=> ((x.slot:Int),lo) else .ok (sl,lo)
theorem zE(L:List Nm)(p:Int×Int)(k n:Int)(s:ByteArray)(sl:Int)(lo:Bool)(o:Int)(args:List Ex):hM L p (.mk k n s sl lo o args)=(match oP L p k s sl lo with| .error e=> .error e| .ok q=>gn (fun l=> .mk k n s q.1 q.2 o l) (fN L p args)):=by
 rw[hM];show (match oP L p k s sl lo with| .error e=>_| .ok (sl',lo')=>_)=_;cases oP L p k s sl lo with
 |error e=>rfl
 |ok q=>cases fN L p args<;>rfl
structure Xp (w:Fk) (ec:List Fr) (pl pc:Int) (W:Fk):Prop where
 b:FM w.1.size w W
 e:ak W w.1.size 58 ec
 p:ak W (w.1.size+1) 32 [.int .i64 pl,.int .i64 pc]
 y:ak W (w.1.size+1+1) 58 yH
section
variable {w W W':Fk} {ec ec':List Fr} {pl pc:Int}
theorem Xp.DV(h:Xp w ec pl pc W)(g:FM (w.1.size+3) W W'):Xp w ec pl pc W':=⟨h.b.trans (g.mono (by omega)),h.e.of (g.block _ (by omega)),h.p.of (g.block _ (by omega)),h.y.of (g.block _ (by omega))⟩
theorem Xp.lt(h:Xp w ec pl pc W):w.1.size+3<=W.1.size:=h.y.lt
theorem Xp.below(h:Xp w ec pl pc W)(g:bL W W'):Xp w ec pl pc W':=h.DV (g.mono h.lt)
theorem Xp.ch(h:Xp w ec pl pc W)(j:w.1.size+3<=b)(g:Ch b W W'):Xp w ec pl pc W':=h.DV (g.below j (FB _ _))
theorem Xp.Em(h:Xp w ec pl pc W)(j:ak W' w.1.size 58 ec')(g:Ch w.1.size W W'):Xp w ec' pl pc W':=⟨g.below (by omega) h.b,j,g.CV (by omega) h.p,g.CV (by omega) h.y⟩
end
theorem vj{k n:Int}{sl:Int}{lo:Bool}{pc:Int}{l:List Ex}(D:Hid (Xp w (gv k n s sl lo p0 v0) p1 pc W))(K:Hid (aL gC (w.1.size+3) W (.slice a0 l.length j) l)){R:Except fT Ex}(HR:Hid (R= .ok (.mk k n s sl lo p0 l)))(hU:l2.length=44:=by rfl):
  FR prog (Jp 4 (f148.body.getD .skip)) (Gb prog f148 (xG w R (kN w))) ⟨(v1::v2::v3::v4::Pt w.1.size::Pt (w.1.size+1)::Pt (w.1.size+1+1)::v5:: .slice a0 l.length j::l2).toArray,[]⟩ W:=by
 revert l2;apply aN;iterate 44 intro _
 change FR _ _ _ _ _;let ⟨a7,a2,V⟩:=en
 have a1:aF l.length j:=by obtain⟨a,cap,h1,h2⟩:=K.form;cases h1;exact h2
 have c6:W.cell? ⟨w.1.size,6,none⟩=some v0:=by rw[D.o.e.cell];rfl
 have f6:=D.e.frozen 6;obtain⟨g,J⟩:=eX (l.length);have a5:=O a1;have U:=O K.DI;clear a1 K;rw[J];have HN:=O J;clear J;conv in (Jp _ _)=>whnf
 refine wk fun K1 X=>?_;go_wp2;apply X;clear X K1;have N:=O (D.Em (D.e.set1 6 (.slice a0 g j)) (Ch.one 6 (.slice a0 g j) W));have a4:=O (ch.keep (fun c o u C G=>by have Z:=C;rw[(Ch.one 6 (.slice a0 g j) W).cell (show c≠w.1.size by omega)];exact G) U)
 clear D U c6 f6;generalize W.setCell _ _=W1 at *;have E:Hid (Xp w (gv k n s sl lo p0 (.slice a0 g j)) p1 pc W1):=N;clear N;obtain⟨A,F⟩:∃A,gv k n s sl lo p0 (.slice a0 g j)=A:=⟨_,z⟩;have H:A.length=7/\∀v∈A,v.oneCell'=true:=by rw[<-F];exact qd
 rw[F]at E;have a3:=O F;have a6:=O H;have Y:=H.1;clear F H;go_wp2_with (first
  | (with_reducible refine l0 58 ?_;refine ac a2 V be z (.tmp 4) z w.1.size A z (O E.o.e) Y ?_)
  | (with_reducible refine s0 58 ?_;refine af be z (.tmp 6) (.tmp 52) z (w.1.size+1+1) A _ z z E.o.y z a6.o ?_;intro W9 Q S;have M:=O (EQ Q S);clear Q S)
 )
 refine aC a2 V be M.o.1 Y z z z ?_;rw[HR.o];refine⟨M.2.below (by omega) E.b,A,z,?_⟩;rw[<-a3.o,<-HN.o];unfold ExL;exact⟨a0,j,z,a5,ch.CQ (fun c C=>by have Z:=C;show w.1.size<=c;omega) (ch.keep (fun c o u C G=>by have Z:=C;rw[M.o.2.cell (show c≠w.1.size+1+1 by omega)];exact G) a4)⟩
theorem kB{k n:Int}{sl:Int}{lo:Bool}{pc:Int}{F h:Nat}{fc:List Fr}{D:PF}{cap:Nat}{args:List Ex}(HF:Hid (Fi w F g h fc D))(K:aF args.length cap)(b5:args.length<=10000000)(HX:Hid (dT w a args))
  (IH:Hid (∀x∈args,∀xs W,Fi W F g h fc D->ExL (fun _=>True) W xs x->Calls prog 148 #[Pt F,.agg xs.toArray,.agg #[I p0,I pc]] W (xG W (hM D.L (p0,pc) x) (kN W))))
  (E:Hid (Xp w (gv k n s sl lo p1 (.slice a args.length cap)) p0 pc W)){R:Except fT Ex}(HR:Hid (R=gn (fun l=> .mk k n s sl lo p1 l) (fN D.L (p0,pc) args)))(hU:l2.length=46:=by rfl):
  FR prog (Jp 2 (f148.body.getD .skip)) (Gb prog f148 (xG w R (kN w))) ⟨(Pt F::v0::v1::v2::Pt w.1.size::Pt (w.1.size+1)::Pt (w.1.size+1+1)::l2).toArray,[]⟩ W:=by
 revert l2;apply aN;iterate 46 intro _
 change FR _ _ _ _ _;let ⟨f2,e1,d9⟩:=en
 let ⟨i8,z8,f6,g2,g5⟩:=mm
 have c9:Hid (prog.underlying 56=some (.slice 58)):=O (by kernel_rfl);obtain⟨i0,z0,M,a0,V,Z,a4⟩:∃i z,prog.info? 58=some i/\i.zero=some z/\z.cells.size=7/\i.size=7/\i.bytes<=1024:=by
  have h:=sS;let ⟨i,h1,h2⟩:=Ga.1 h
  simp only[Prod.mk.injEq]at h2;let ⟨h3,h4,h5⟩:=h2
  let ⟨z,h6,h7⟩:=Ga.1 h3
  exact⟨i,z,h1,h6,h7,h4,of_decide_eq_true h5⟩
 have Y:=O (EQ M (EQ a0 (EQ V (EQ Z a4))));clear M a0 V Z a4;let ⟨C,hN⟩:=eX (args.length)
 rw[hN]at E K b5;have Q:=O hN;clear hN;have d8:=O K;have g9:=O fun _:True=>b5;clear K b5;conv in (Jp _ _)=>whnf
 refine wk fun KK a2=>?_;go_wp2_with fail;refine a2.o _ _ ?_;clear a2 KK;have c6:W.cell? ⟨w.1.size,6,none⟩=some (.slice a C cap):=by rw[E.o.e.cell];rfl
 refine wk fun KK a2=>?_;go_wp2_with fail;clear c6;go_loopg [8,38] C (fun x av iv wr=>∃ (i:Nat) (acc:List Ex),i<=C/\x=C-i/\iv=I i/\acc.length=i/\Hid (aL gC (w.1.size+3) wr av acc)/\Hid (Xp w (gv k n s sl lo p1 (.slice a C cap)) p0 pc wr)/\Hid (fN D.L (p0,pc) args=gn (acc++·) (fN D.L (p0,pc) (args.drop i))));case atStart=>exact⟨0,[],FX _,rfl,rfl,rfl,O (aL.nil _ _ _),E,O (by cases h:fN D.L (p0,pc) args<;>simp[gn,h])⟩
 case round=>
  clear E;obtain⟨i,acc,hi,rfl,rfl,X,S,E,HD⟩:=hrel;obtain⟨ga,a8,rfl,b6⟩:=S.o.form;have i4:=O b6;clear b6;have b9:=O X;clear X;by_cases a5:i<C
  .have h9:(i:Int)< (C:Int):=by omega
   have h8:(0:Int)<=(i:Int):=by omega
   have K:(i:Int)+1<=9223372036854775807:=by have h1:=d8.o.1;have h2:=d8.o.2;omega
   have f4:=O fun _:True=>K;clear K;obtain⟨b2,b8,xs,rfl,e3,a3⟩:=dT.at (dT.below HX.o E.o.b) (j:=i) (by rw[Q.o];exact a5);have d2:args.getD i aT∈args:=by rw[FD,FC (by rw[Q.o];exact a5)];exact Gy _
   have c8:=fun W=>IH.o _ d2 xs W;have d6:args.drop i=args.getD i aT::args.drop (i+1):=by rw[FZ (by rw[Q.o];exact a5),FD,FC (by rw[Q.o];exact a5)];rfl
   have A:=HD.o;rw[d6,qH]at A;generalize args.getD i aT=x at *;have g4:=O c8;have d1:=O A;have f7:Hid (ExL (fun _=>True) wr xs x):=O a3;have f0:Hid (wr.rangeAt b2 (b8+i*7) xs):=O e3;have g8:=O a3.cells;have b7:=a3.cells.1;clear c8 A a3 e3 d6 HD d2;obtain⟨J,a7⟩:=eX (wr.1.size);have a6:Hid (w.1.size+3<=J):=O (by rw[<-a7];exact E.o.lt);go_wp2_with (first
    | (with_reducible refine l1 41 58 ?_;refine Gn rfl 58 (.tmp 40) rfl b2 (b8+i*7) rfl xs f2 f0.o e1 d9 (by rw[b7];exact be) ?_)
    | (with_reducible refine cp 10 (.alloc 58) ?_;refine ag f6 g2 g5 rfl rfl J a7 ?_;intro W4 k4 b4 s4;have K4:=O k4;have B4:=O b4;clear k4 b4)
    | (with_reducible refine s0 58 ?_;refine af be rfl (.tmp 10) (.tmp 41) rfl J xs _ rfl rfl K4.o rfl g8.o ?_;intro W5 k5 c5;have U:=O (EQ k5 c5);clear k5 c5;have G:=O ((E.o.below B4.o).ch a6.o U.o.2);have d3:=(G.o.p.cell 0);have e0:=G.o.p.cell 1;simp only[List.getElem?_cons_zero,List.getElem?_cons_succ]at d3 e0)
    | (with_reducible refine l1 44 58 ?_;refine ac e1 d9 be rfl (.tmp 10) rfl J xs rfl (O U.o.1) b7 ?_)
   )
   have a9:FM wr.1.size wr W5:=U.o.2.below (by omega) B4.o;refine(g4.o W5 (HF.o.up G.o.b) (f7.o.sub a9)).mono ?_;rintro e W6 ⟨N,hm⟩;let ⟨r,hr⟩:=eX (hM D.L (p0,pc) x)
   have A:=d1.o;rw[hr]at hm A;clear hr;rcases r with er|y
   .obtain rfl:e= .panicked [dd er]:=hm;have H:=HR.o;rw[A]at H;subst H;exact⟨rfl,G.b.trans (N.mono G.b.size),rfl⟩
   obtain⟨es,rfl,he⟩:=hm;have g7:=O A;clear A d1;have HL:=O he.cells;have e6:J+1<=W5.1.size:=by rw[U.o.2.size];omega
   have g1:=N.size;have d5:=S.o;have g3:Hid (∀g,(Gd ga acc.length a8).ownBlock=some g->g<J):=O fun g hg=>by obtain⟨cells,-,h5,-⟩:=d5.own;have:=(h5.lt g hg).2;omega
   clear d5;have d4:Hid (gC.L (fun c=>w.1.size+3<=c/\(Gd ga acc.length a8).ownBlock≠some c) W6 es y):=O (ExL.CQ (fun c hc=>by have i3:W5.1.size<=c:=hc;have:=a6.o;exact⟨by omega,fun e=>by have:=g3 c e;omega⟩) he)
   have d0:=O ((S.below a9).below N);have e4:=O (G.below N);have f1:Hid (w.1.size+3<=W6.1.size):=O (by have:=a6.o;omega);have X:acc.length<=10000000:=by have:=b9.o;have:=g9 trivial;omega
   have e9:=O fun _:True=>X;clear X he N a9 S E G d3 e0 U B4 K4 s4 a7 e6 g1;have M:=Y.1;have a0:=Y.2.1;have V:=Y.2.2.1;have Z:=Y.2.2.2.1;have a4:=Y.2.2.2.2;go_wp2_with (first
    | ((with_reducible show wpList _ _ _ (Oper.mk (some 47) _ _ _ _ _::_) _ _);refine cy rfl (.tmp 46) rfl c9 M a0 Z V (by decide) (by decide) _ es rfl rfl HL.1 ?_;let ⟨gE,a1⟩:=eX (W6.1.size);rw[a1];intro Wb kb bb sb;have KB:=O kb;have f8:=O (d0.below bb);have e7:=O (e4.below bb);have h0:=O (gC.keep (fun b o u _ hu=>ai bb b o u hu) d4);have g6:Hid (w.1.size+3<=Wb.1.size):=O (by have:=f1.o;omega);clear kb bb sb d0 e4 d4)
    | (at_builtin;refine bW gC rfl (.tmp 42) (.tmp 47) 56 rfl i0 z0 c9 M a0 Z V (by decide) a4 (w.1.size+3) Wb (.slice ga acc.length a8) acc rfl f8 es y h0 _ 58 KB rfl (e9 trivial) g6 ?_;intro gb i1 i5 e2 d7 e5 e8;have f5:=O e2;have f3:=O d7;clear e2 d7 e5 e8)
   )
   go_roundg (C- (i+1));case measure=>omega
   case rel=>
    refine⟨i+1,acc++[y],by omega,rfl,?_,by have:=b9.o;simp;omega,by simpa using f5,O (e7.DV f3),O ?_⟩
    .have hp:=f4 trivial;exact congrArg (Gr .i64) ((IntWalk.wrap64_in _ (by omega)).trans (by omega))
    .rw[g7.o,ha];simp
  .obtain rfl:i=C:=by omega
   have i2:¬ (i:Int)< (i:Int):=by omega
   have A:=HD.o;rw[show args.drop i=[] by rw[<-Q.o,Hn]]at A;have H:=HR.o;rw[A]at H;have f9:Hid (R= .ok (.mk k n s sl lo p1 acc)):=O (by rw[H];simp[fN,gn]);clear A H;go_wp2;apply a2;exact vj E S f9
end Go.Proofs.YtgppcdfgdaggjaaGreatDoor
