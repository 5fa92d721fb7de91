/- Texts laid together. No condition but what each law says. -/
import Derived.Test.YtgppcdfgdaggjaaGreatDoorM23
import Derived.Test.YtgppcdfgdaggjaaGreatDoorM20
set_option maxRecDepth 100000
set_option maxHeartbeats 8000000
namespace Go.Proofs.YtgppcdfgdaggjaaGreatDoor
open Go.RowKit Go.Maps Go.Proofs.Tryz
open Go renaming Calls→Jq,Value→Fr,World→Fk,wpList_load_mid→Gn
open Go.RowKit renaming Below→FM
open Go.RowKit.Below renaming refl→FB
open Go.IntWalk renaming wrap64_in→Gi
open List renaming getD_eq_getElem?_getD→FD,getElem?_eq_getElem→FC,getElem_mem→Gy,mem_cons→FQ,not_mem_nil→FO
open Go.Value renaming int→Gr
open Go.Act renaming put→Gf
open And renaming intro→EQ
variable {W w:Fk}{u0 u1 u2 u3 u4 v v0 v1 v2 v3 v4 v5 v6 v7 v8 v9:Fr}{a0 a1:Option Addr}{g j n0 n5 n6:Nat}{l2 l3:List Fr}{s:ByteArray}
def vo(x:Ex):Prop:=∀ (cs1 cs2:List Fr) (W:Fk),ExL (fun _=>True) W cs1 x->ExL (fun _=>True) W cs2 x->Jq prog 46 #[.agg cs1.toArray,.agg cs2.toArray] W (sk W)
theorem tW(k n:Int)(s:ByteArray)(sl:Int)(lo:Bool)(E:Int)(args:List Ex)(IH:∀x∈args,vo x):vo (.mk k n s sl lo E args):=by
 intro d7 b5 w c9 b9;obtain⟨a8,b7,a9⟩:=en;have d9:prog.follows .mixedOrders=true:=by kernel_rfl
 unfold ExL at c9 b9;obtain⟨H,c1,a0,a2,d0⟩:=c9;obtain⟨N,c2,a3,-,d6⟩:=b9;have b6:dT w H args:=d0;have d2:dT w N args:=d6;obtain⟨g,hN⟩:∃g,args.length=g:=⟨_,rfl⟩;rw[hN]at a0 a3 a2;have e8:Hid (d7=gv k n s sl lo E (.slice H g c1)):=O a0;have e1:Hid (b5=gv k n s sl lo E (.slice N g c2)):=O a3;have Z:=O hN;have e2:=O b6;have e6:=O d2;have e7:=O IH;have d3:=O fun _:True=>a2;clear a0 a3 a2 d0 d6 b6 d2 IH hN;go_enter func46,ntmps46;refine wk fun V J=>?_;go_wp2_with (first
  | ((with_reducible refine cp 2 (.box 58 _) ?_);refine aJ rfl (.tmp 0) rfl d7 rfl w.1.size rfl ?_;intro M k1 b1 b8;have a1:=O k1;have X:=O b1;clear k1 b1)
  | ((with_reducible refine cp 3 (.box 58 _) ?_);refine aJ rfl (.tmp 1) rfl b5 rfl (w.1.size+1) b8 ?_;intro C k2 b2 s2;have K2:=O k2;have Y:=O b2;clear k2 b2)
  |fail)
 refine J.o _ _ ?_;clear J V;obtain⟨z,Q⟩:∃z,w.1.size=z:=⟨_,rfl⟩;rw[Q]at a1 K2;rw[Q];have A:Hid (FM w.1.size w C/\ak C z 58 (gv k n s sl lo E (.slice H g c1))/\ak C (z+1) 58 (gv k n s sl lo E (.slice N g c2))):=O (by rw[<-e8.o,<-e1.o];have e3:=X.o.trans (Y.o.mono (by have:=X.o.size;omega));exact⟨e3,a1.o.below Y.o,K2.o⟩)
 have HZ:=O Q;clear a1 K2 X Y b8 s2 Q;refine wk fun V J=>?_;have p0:C.cell? ⟨z,0,none⟩=some (.int .i64 k):=A.o.2.1.cell 0;have p1:C.cell? ⟨z,1,none⟩=some (.int .i64 n):=A.o.2.1.cell 1;have p2:C.cell? ⟨z,2,none⟩=some (.string s):=A.o.2.1.cell 2;have p3:C.cell? ⟨z,3,none⟩=some (.int .i64 sl):=A.o.2.1.cell 3;have p4:C.cell? ⟨z,4,none⟩=some (.bool lo):=A.o.2.1.cell 4;have p5:C.cell? ⟨z,5,none⟩=some (.int .i64 E):=A.o.2.1.cell 5;have p6:C.cell? ⟨z,6,none⟩=some (.slice H g c1):=A.o.2.1.cell 6;have q0:C.cell? ⟨z+1,0,none⟩=some (.int .i64 k):=A.o.2.2.cell 0;have q1:C.cell? ⟨z+1,1,none⟩=some (.int .i64 n):=A.o.2.2.cell 1;have q2:C.cell? ⟨z+1,2,none⟩=some (.string s):=A.o.2.2.cell 2
 have q3:C.cell? ⟨z+1,3,none⟩=some (.int .i64 sl):=A.o.2.2.cell 3;have q4:C.cell? ⟨z+1,4,none⟩=some (.bool lo):=A.o.2.2.cell 4;have q5:C.cell? ⟨z+1,5,none⟩=some (.int .i64 E):=A.o.2.2.cell 5;have q6:C.cell? ⟨z+1,6,none⟩=some (.slice N g c2):=A.o.2.2.cell 6;go_wp2_with fail;refine J.o _ _ ?_;clear J V p0 p1 p2 p3 p4 p5 p6 q0 q1 q2 q3 q4 q5 q6;refine wk fun V J=>?_;go_wp2_with fail;go_loopg [5] g (fun x iv wr=>∃i:Nat,i<=g/\x=g-i/\iv=I i/\Hid (FM w.1.size w wr/\ak wr z 58 (gv k n s sl lo E (.slice H g c1))/\ak wr (z+1) 58 (gv k n s sl lo E (.slice N g c2))));case atStart=>exact⟨0,Nat.zero_le _,rfl,rfl,A⟩
 case round=>
  clear A;obtain⟨i,hi,rfl,rfl,A⟩:=hrel;have p6:wr.cell? ⟨z,6,none⟩=some (.slice H g c1):=A.o.2.1.cell 6;by_cases a4:i<g
  .have f1:(i:Int)< (g:Int):=by omega
   have e9:(0:Int)<=(i:Int):=by omega
   have e0:Hid (wrap64 ((i:Int)+1)=((i+1:Nat):Int)):=O (by have h1:=(d3.o trivial).1;have h2:=(d3.o trivial).2;have:=Gi ((i:Int)+1) (by omega);rw[this];omega)
   obtain⟨D,hV⟩:∃D,wr.drew=D:=⟨_,rfl⟩;have G:Hid (FM w.1.size w D/\ak D z 58 (gv k n s sl lo E (.slice H g c1))/\ak D (z+1) 58 (gv k n s sl lo E (.slice N g c2))):=O (by rw[<-hV];exact⟨A.o.1.trans (FB _ _).drew,A.o.2.1.drew,A.o.2.2.drew⟩);obtain⟨b1,o1,U,rfl,c8,d8⟩:=dT.at (dT.below e2.o G.o.1) (j:=i) (by rw[Z.o];exact a4);obtain⟨b2,o2,S,rfl,d1,b4⟩:=dT.at (dT.below e6.o G.o.1) (j:=i) (by rw[Z.o];exact a4);have d4:args.getD i aT∈args:=by rw[FD,FC (by rw[Z.o];exact a4)];exact Gy _
   have d5:=e7.o _ d4;generalize args.getD i aT=x at *;have a7:=O d5;have R:Hid (ExL (fun _=>True) D U x/\ExL (fun _=>True) D S x):=O ⟨d8,b4⟩;have a6:Hid (D.rangeAt b1 (o1+i*7) U/\D.rangeAt b2 (o2+i*7) S):=O ⟨c8,d1⟩;clear d5 d8 b4 c8 d1 d4;go_wp2_with fail;refine al [] (fun W'=>FM D.1.size D W') d9 ?_;rw[hV];clear hV p6 A;have F:Hid (FM D.1.size D D):=O (FB _ _);refine tk 0 (some 62) F ?_;refine tf (fun M=>M.cell? ⟨z,6,none⟩=some (.slice (some ⟨b1,o1,none⟩) g c1)) 1 (some 63) F (fun M a5=> (G.o.2.1.below a5).cell 6) ?_;refine tk 2 (some 64) F ?_;refine tk 3 (some 65) F ?_;refine nm ?_
   refine tl 4 66 F 58 65 b1 (o1+i*7) U a8 (fun W hS=>fun j u hu=>ai hS _ _ _ (a6.o.1 j u hu)) b7 a9 (by rw[R.o.1.cells.1];exact be) ?_;refine tk 5 (some 67) F ?_;refine tf (fun M=>M.cell? ⟨z+1,6,none⟩=some (.slice (some ⟨b2,o2,none⟩) g c2)) 6 (some 68) F (fun M a5=> (G.o.2.2.below a5).cell 6) ?_;refine tk 7 (some 69) F ?_;refine nm ?_;refine tk 8 (some 70) F ?_;refine tl 9 71 F 58 70 b2 (o2+i*7) S a8 (fun W hS=>fun j u hu=>ai hS _ _ _ (a6.o.2 j u hu)) b7 a9 (by rw[R.o.2.cells.1];exact be) ?_;refine nm ?_;refine oD 10 fun e5 hK=>?_;go_simp;refine(a7.o U S D R.o.1 R.o.2).mono ?_;rintro e W3 ⟨rfl,hb⟩;have K:=O hb;refine hK _ _ (fun _=>K.o) ?_;clear hK e5 hb;try refine nm ?_
   refine tk 11 (some 73) K ?_;refine nm ?_;refine dn ?_;have e4:Hid (FM w.1.size w W3/\ak W3 z 58 (gv k n s sl lo E (.slice (some ⟨b1,o1,none⟩) g c1))/\ak W3 (z+1) 58 (gv k n s sl lo E (.slice (some ⟨b2,o2,none⟩) g c2))):=O ⟨G.o.1.trans (K.o.mono G.o.1.size),G.o.2.1.below K.o,G.o.2.2.below K.o⟩;clear F K G R a6 a7;go_wp2_with fail;go_roundg (g- (i+1));case measure=>omega
   case rel=>exact⟨i+1,by omega,rfl,congrArg (Gr .i64) e0.o,e4⟩
  .obtain rfl:i=g:=by omega
   have f0:¬ (i:Int)< (i:Int):=by omega
   go_wp2_with fail;refine J.o _ _ ?_;go_wp2_with fail;go_ret;exact⟨rfl,A.o.1⟩
mutual
theorem ig:∀x:Ex,vo x
 | .mk k n s sl lo op args=>tW k n s sl lo op args (nM args)
theorem nM:∀ (l:List Ex),∀x∈l,vo x
 | [],x,hx=>by cases hx
 |y::r,x,hx=>by
  by_cases e:x=y
  .rw[e]
   exact ig y
  .exact nM r x ((FQ.1 hx).resolve_left e)
end
def nK(l:List St):Prop:=∀ (a1 a2:Option Addr) (c1 c2:Nat) (W:Fk),aF l.length c1->aE (fun _=>True) W a1 0 l->aE (fun _=>True) W a2 0 l->Jq prog 18 #[.slice a1 l.length c1,.slice a2 l.length c2] W (sk W)
def yf:St->Prop
 | .mk _ _ _ _ _ _ _ body els _ _ _ _=>nK body/\nK els
theorem ka(l:List St)(j7:∀s∈l,yf s):nK l:=by
 intro a1 a2 c1 c2 w g3 N X;let ⟨i9,l4,j6⟩:=hj
 let ⟨d5,b7,b9⟩:=en
 let ⟨i6,z6,f4,f6,f3⟩:=ki
 have l9:prog.follows .mixedOrders=true:=by kernel_rfl
 obtain⟨b4,hN⟩:=eX l.length;rw[hN]at g3 ⊢;have HN:=O hN;have H1:=O N;have H2:=O X;have o0:=O j7;have k6:=O fun _:True=>g3;clear g3 N X j7 hN;go_enter func18,ntmps18;refine wk fun KK d7=>?_;go_wp2;apply d7;clear d7 KK;refine wk fun KK d7=>?_;go_wp2;apply d7;clear d7 KK;refine wk fun KK d7=>?_;go_wp2;go_loopg [5] b4 (fun x iv wr=>∃i:Nat,i<=b4/\x=b4-i/\iv=I i/\Hid (FM w.1.size w wr));case atStart=>exact⟨0,Nat.zero_le _,z,z,O (FB _ _)⟩
 case round=>
  obtain⟨i,hi,rfl,rfl,HB⟩:=hrel;by_cases f9:i<b4
  .have p6:(i:Int)< (b4:Int):=by omega
   have o5:(0:Int)<=(i:Int):=by omega
   have k2:Hid (wrap64 ((i:Int)+1)=((i+1:Nat):Int)):=O (by have N:=(k6 trivial).1;have X:=(k6 trivial).2;have:=Gi ((i:Int)+1) (by omega);rw[this];omega)
   obtain⟨Q,hV⟩:=eX wr.drew;have e4:Hid (FM w.1.size w Q):=O (by rw[<-hV];exact HB.trans (FB _ _).drew);obtain⟨b1,o1,b6,rfl,-,k7,l6⟩:=(H1.Do e4).at i (by rw[HN.o];exact f9);obtain⟨b2,o2,d2,rfl,-,j9,j5⟩:=(H2.Do e4).at i (by rw[HN.o];exact f9);have i7:l.getD i default∈l:=by rw[FD,FC (by rw[HN.o];exact f9)];exact Gy _
   have M:=o0 _ i7;generalize l.getD i default=s at *;let ⟨k,U,V,S,t,x,y,body,els,id,sl,ot,lo⟩:=s
   unfold bX at l6 j5;let ⟨h1,a3,c9,b8,c8,b5,e5,h7,g5,k9,f0,j3,l5⟩:=l6
   obtain⟨a0,a4,d1,d3,d4,d0,e6,h9,h3,-,e9,-,i8⟩:=j5;obtain⟨NB,g9⟩:=eX body.length;obtain⟨NE,i0⟩:=eX els.length;rw[g9]at e5 e6;rw[i0]at e5 e6;have f2:Hid (nK body/\nK els):=O M;have e8:=O (EQ g9 i0);have R:=O (EQ h7 h9);have HY:=O (EQ g5 h3);have e2:=O (EQ k9 (EQ f0 e9));have e3:=O (EQ j3 (EQ l5 i8));have g8:Hid (b6.length=25/\∀v∈b6,v.oneCell'=true):=O (by rw[show b6=cO k U V S t h1 a3 (.slice c9 NB c8) (.slice b8 NE b5) id sl ot lo from e5];exact hk h7.cells g5.cells);have h8:Hid (d2.length=25/\∀v∈d2,v.oneCell'=true):=O (by rw[show d2=cO k U V S t a0 a4 (.slice d1 NB d4) (.slice d3 NE d0) id sl ot lo from e6];exact hk h9.cells h3.cells)
   have e7:Hid (b6=cO k U V S t h1 a3 (.slice c9 NB c8) (.slice b8 NE b5) id sl ot lo/\d2=cO k U V S t a0 a4 (.slice d1 NB d4) (.slice d3 NE d0) id sl ot lo):=O ⟨e5,e6⟩;have j4:Hid (Q.rangeAt b1 (o1+i*25) b6/\Q.rangeAt b2 (o2+i*25) d2):=O ⟨fun t v hv=>by simpa using k7 t v hv,fun t v hv=>by simpa using j9 t v hv⟩;clear M h7 h9 g5 h3 k9 f0 e9 j3 l5 i8 k7 j9 i7 e5 e6 g9 i0;go_wp2;apply al [] (fun W'=>FM Q.1.size Q W') l9;rw[hV];clear hV HB;have Z:Hid (FM Q.1.size Q Q):=O (FB _ _);refine ke 0 ?_;refine tl 3 22 Z 60 21 b1 (o1+i*25) b6 i9 (fun W hS=>fun j u hu=>ai hS _ _ _ (j4.1 j u hu)) l4 j6 (by rw[g8.o.1];exact ar) ?_;refine nm ?_;refine ke 4 ?_
   refine tl 7 26 Z 60 25 b2 (o2+i*25) d2 i9 (fun W hS=>fun j u hu=>ai hS _ _ _ (j4.2 j u hu)) l4 j6 (by rw[h8.o.1];exact ar) ?_;refine nm ?_;refine cj [8,9] (by kernel_rfl) ?_ (by decide);intro i hi;simp only[FQ,FO,or_false]at hi;rcases hi with rfl|rfl
   .refine⟨_,z,z,fun G H=>?_⟩;obtain⟨J,f0⟩:=eX Q.1.size;refine aw f4 f6 f3 z J f0 ?_;intro X1 D g o6;have f5:=O (Z.trans (g.mono Z.size));have m8:=O D;have l3:Hid (Q.1.size<=J/\J<X1.1.size):=O ⟨by have:=Z.size;omega,D.lt⟩;change G (Gf _ (some 6) _) X1;apply H _ _ (fun _=>f5);clear H G D g;refine nm ?_;refine oD 9 fun G H=>?_;obtain⟨K,e9⟩:∃b,X1.1.size=b:=⟨_,z⟩;refine aw f4 f6 f3 z K e9 ?_;intro X2 D g o9;have k1:=O (f5.o.trans (g.mono f5.o.size));have m0:=O D;have m9:Hid (Q.1.size<=K/\K<X2.1.size):=O ⟨by have:=f5.o.size;omega,D.lt⟩;have l7:=O (m8.o.below g);have k0:Hid (J≠K):=O (by have N:=l3.o.2;omega);change G (Gf _ (some 7) _) X2;refine H _ _ (fun _=>k1.o) ?_;clear H G D g;refine nm ?_
    refine oD 10 fun G H=>?_;refine an ar (.tmp 6) (.tmp 22) z J b6 _ z z l7.o z g8.o ?_;intro X3 D Y;have j2:=O (Y.below l3.o.1 k1.o);have m7:=O D;have n6:=O (Y.CV (by have:=k0.o;omega) m0.o);change G (Gf _ none _) X3;refine H _ _ (fun _=>j2.o) ?_;clear H G D Y;refine oD 11 fun G H=>?_;refine an ar (.tmp 7) (.tmp 26) z K d2 _ z z n6.o z h8.o ?_;intro X4 D Y;have i5:=O (Y.below m9.o.1 j2.o);have n0:=O D;have n9:=O (Y.CV (by have:=k0.o;omega) m7.o);change G (Gf _ none _) X4;refine H _ _ (fun _=>i5.o) ?_;clear H G D Y;try simp only[Gf]
    refine dn ?_;have HV:=O i5.o;have A:Hid (ak X4 J 60 (cO k U V S t h1 a3 (.slice c9 NB c8) (.slice b8 NE b5) id sl ot lo)/\ak X4 K 60 (cO k U V S t a0 a4 (.slice d1 NB d4) (.slice d3 NE d0) id sl ot lo)):=O (by rw[<-e7.o.1,<-e7.o.2];exact⟨n9.o,n0.o⟩);generalize X4=U0 at *;have F:=O (bR z R.o.1.cells.1 HY.o.1.cells.1 (C:=cO k U V S t h1 a3 (.slice c9 NB c8) (.slice b8 NE b5) id sl ot lo));have E:=O (bR z R.o.2.cells.1 HY.o.2.cells.1 (C:=cO k U V S t a0 a4 (.slice d1 NB d4) (.slice d3 NE d0) id sl ot lo));have p0:=(A.o.1.cell 0).trans F.o.1;have p1:=(A.o.1.cell 1).trans F.o.2.1;have p2:=(A.o.1.cell 2).trans F.o.2.2.1;have p3:=(A.o.1.cell 3).trans F.o.2.2.2.1
    have p4:=(A.o.1.cell 4).trans F.o.2.2.2.2.1;have h4:=(A.o.1.cell 21).trans F.o.2.2.2.2.2.2.2.1;have i1:=(A.o.1.cell 22).trans F.o.2.2.2.2.2.2.2.2.1;have g4:=(A.o.1.cell 23).trans F.o.2.2.2.2.2.2.2.2.2.1;have g6:=(A.o.1.cell 24).trans F.o.2.2.2.2.2.2.2.2.2.2;have q0:=(A.o.2.cell 0).trans E.o.1;have q1:=(A.o.2.cell 1).trans E.o.2.1;have q2:=(A.o.2.cell 2).trans E.o.2.2.1;have q3:=(A.o.2.cell 3).trans E.o.2.2.2.1;have q4:=(A.o.2.cell 4).trans E.o.2.2.2.2.1;have h0:=(A.o.2.cell 21).trans E.o.2.2.2.2.2.2.2.1;have i3:=(A.o.2.cell 22).trans E.o.2.2.2.2.2.2.2.2.1;have i4:=(A.o.2.cell 23).trans E.o.2.2.2.2.2.2.2.2.2.1;have f7:=(A.o.2.cell 24).trans E.o.2.2.2.2.2.2.2.2.2.2
    have e0:=O (EQ (ExL.sub R.o.1 HV.o) (ExL.sub R.o.2 HV.o));have d8:Hid (U0.rangeAt J 5 h1/\U0.rangeAt K 5 a0):=O (by have N:=A.o.1;have X:=A.o.2;rw[jg]at N X;exact⟨ak.range N z,ak.range X z⟩)
    go_wp2_with (first
     | ((with_reducible refine cp 82 (.load 58 _) ?_);refine Gn z 58 (.tmp 81) z J 5 z h1 d5 d8.o.1 b7 b9 (by rw[R.o.1.cells.1];exact be) ?_)
     | ((with_reducible refine cp 84 (.load 58 _) ?_);refine Gn z 58 (.tmp 83) z K 5 z a0 d5 d8.o.2 b7 b9 (by rw[R.o.2.cells.1];exact be) ?_)
     |fail)
    refine(ig x h1 a0 U0 e0.o.1 e0.o.2).mono ?_;clear p0 p1 p2 p3 p4 h4 i1 g4 g6 q0 q1 q2 q3 q4 h0 i3 i4 f7 e0 d8;rintro e U1 ⟨rfl,g⟩;have a6:=O (HV.o.trans (g.mono HV.o.size));have a7:=O (EQ (A.o.1.below g) (A.o.2.below g));clear g A HV;have e1:=O (EQ (ExL.sub HY.o.1 a6.o) (ExL.sub HY.o.2 a6.o));have d6:Hid (U1.rangeAt J 12 a3/\U1.rangeAt K 12 a4):=O (by have N:=a7.o.1;have X:=a7.o.2;rw[jj]at N X;have g1:=ak.range N z;have g2:=ak.range X z;rw[show (Gr .i64 k::I U::I V:: .string S:: .string t::h1).length=12 by simp[R.o.1.cells.1]]at g1;rw[show (Gr .i64 k::I U::I V:: .string S:: .string t::a0).length=12 by simp[R.o.2.cells.1]]at g2;exact⟨g1,g2⟩)
    go_wp2_with (first
     | ((with_reducible refine cp 89 (.load 58 _) ?_);refine aS z 58 (.tmp 88) z J 12 z a3 d5 d6.o.1 b7 b9 (by rw[HY.o.1.cells.1];exact be) ?_)
     | ((with_reducible refine cp 91 (.load 58 _) ?_);refine aS z 58 (.tmp 90) z K 12 z a4 d5 d6.o.2 b7 b9 (by rw[HY.o.2.cells.1];exact be) ?_)
     |fail)
    refine(ig y a3 a4 U1 e1.o.1 e1.o.2).mono ?_;clear e1 d6;rintro e U2 ⟨rfl,g⟩;have a9:=O (a6.o.trans (g.mono a6.o.size));have a5:=O (EQ (a7.o.1.below g) (a7.o.2.below g));clear g a7 a6;have i2:=(a5.o.1.cell 19).trans F.o.2.2.2.2.2.1;have h5:=(a5.o.2.cell 19).trans E.o.2.2.2.2.2.1;have M:=f2.o.1 c9 d1 c8 d4 U2 e2.o.1 (e2.o.2.1.Do a9.o) (e2.o.2.2.Do a9.o);rw[e8.o.1]at M;go_wp2_with fail;refine M.mono ?_;clear M i2 h5;rintro e U3 ⟨rfl,g⟩;have a8:=O (a9.o.trans (g.mono a9.o.size));have d9:=O (EQ (a5.o.1.below g) (a5.o.2.below g));clear g a5 a9;have f8:=(d9.o.1.cell 20).trans F.o.2.2.2.2.2.2.1;have h6:=(d9.o.2.cell 20).trans E.o.2.2.2.2.2.2.1
    have M:=f2.o.2 b8 d3 b5 d0 U3 e3.o.1 (e3.o.2.1.Do a8.o) (e3.o.2.2.Do a8.o);rw[e8.o.2]at M;go_wp2_with fail;refine M.mono ?_;clear M f8 h6;rintro e U4 ⟨rfl,g⟩;have g7:=O (e4.o.trans ((a8.o.trans (g.mono a8.o.size)).mono e4.o.size));clear g d9 a8;go_wp2_with fail;go_roundg (b4- (i+1));case measure=>omega
    case rel=>exact⟨i+1,by omega,z,congrArg (Gr .i64) k2.o,g7⟩
   .refine⟨_,z,z,fun G H=>?_⟩;obtain⟨K,n8⟩:∃b,Q.1.size=b:=⟨_,z⟩;refine aw f4 f6 f3 z K n8 ?_;intro X5 D g o8;have f1:=O (Z.o.trans (g.mono Z.o.size));have m1:=O D;have j8:Hid (Q.1.size<=K/\K<X5.1.size):=O ⟨by have:=Z.o.size;omega,D.lt⟩;change G (Gf _ (some 7) _) X5;refine H _ _ (fun _=>f1.o) ?_;clear H G D g;refine nm ?_;refine oD 8 fun G H=>?_;obtain⟨J,m2⟩:∃b,X5.1.size=b:=⟨_,z⟩;refine aw f4 f6 f3 z J m2 ?_;intro X6 D g p5;have k8:=O (f1.o.trans (g.mono f1.o.size));have n5:=O D;have m5:Hid (Q.1.size<=J/\J<X6.1.size):=O ⟨by have:=f1.o.size;omega,D.lt⟩;have m3:=O (m1.o.below g);have l2:Hid (J≠K):=O (by have N:=j8.o.2;omega);change G (Gf _ (some 6) _) X6;refine H _ _ (fun _=>k8.o) ?_;clear H G D g
    refine nm ?_;refine oD 10 fun G H=>?_;refine an ar (.tmp 6) (.tmp 22) z J b6 _ z z n5.o z g8.o ?_;intro X7 D Y;have j1:=O (Y.below m5.o.1 k8.o);have m6:=O D;have l8:=O (Y.CV (by have:=l2.o;omega) m3.o);change G (Gf _ none _) X7;refine H _ _ (fun _=>j1.o) ?_;clear H G D Y;refine oD 11 fun G H=>?_;refine an ar (.tmp 7) (.tmp 26) z K d2 _ z z l8.o z h8.o ?_;intro X8 D Y;have j0:=O (Y.below j8.o.1 j1.o);have n7:=O D;have m4:=O (Y.CV (by have:=l2.o;omega) m6.o);change G (Gf _ none _) X8;refine H _ _ (fun _=>j0.o) ?_;clear H G D Y;try simp only[Gf]
    refine dn ?_;have HV:=O j0.o;have A:Hid (ak X8 J 60 (cO k U V S t h1 a3 (.slice c9 NB c8) (.slice b8 NE b5) id sl ot lo)/\ak X8 K 60 (cO k U V S t a0 a4 (.slice d1 NB d4) (.slice d3 NE d0) id sl ot lo)):=O (by rw[<-e7.o.1,<-e7.o.2];exact⟨m4.o,n7.o⟩);generalize X8=U0 at *;have F:=O (bR z R.o.1.cells.1 HY.o.1.cells.1 (C:=cO k U V S t h1 a3 (.slice c9 NB c8) (.slice b8 NE b5) id sl ot lo));have E:=O (bR z R.o.2.cells.1 HY.o.2.cells.1 (C:=cO k U V S t a0 a4 (.slice d1 NB d4) (.slice d3 NE d0) id sl ot lo));have p0:=(A.o.1.cell 0).trans F.o.1;have p1:=(A.o.1.cell 1).trans F.o.2.1;have p2:=(A.o.1.cell 2).trans F.o.2.2.1;have p3:=(A.o.1.cell 3).trans F.o.2.2.2.1
    have p4:=(A.o.1.cell 4).trans F.o.2.2.2.2.1;have h4:=(A.o.1.cell 21).trans F.o.2.2.2.2.2.2.2.1;have i1:=(A.o.1.cell 22).trans F.o.2.2.2.2.2.2.2.2.1;have g4:=(A.o.1.cell 23).trans F.o.2.2.2.2.2.2.2.2.2.1;have g6:=(A.o.1.cell 24).trans F.o.2.2.2.2.2.2.2.2.2.2;have q0:=(A.o.2.cell 0).trans E.o.1;have q1:=(A.o.2.cell 1).trans E.o.2.1;have q2:=(A.o.2.cell 2).trans E.o.2.2.1;have q3:=(A.o.2.cell 3).trans E.o.2.2.2.1;have q4:=(A.o.2.cell 4).trans E.o.2.2.2.2.1;have h0:=(A.o.2.cell 21).trans E.o.2.2.2.2.2.2.2.1;have i3:=(A.o.2.cell 22).trans E.o.2.2.2.2.2.2.2.2.1;have i4:=(A.o.2.cell 23).trans E.o.2.2.2.2.2.2.2.2.2.1;have f7:=(A.o.2.cell 24).trans E.o.2.2.2.2.2.2.2.2.2.2
    have e0:=O (EQ (ExL.sub R.o.1 HV.o) (ExL.sub R.o.2 HV.o));have d8:Hid (U0.rangeAt J 5 h1/\U0.rangeAt K 5 a0):=O (by have N:=A.o.1;have X:=A.o.2;rw[jg]at N X;exact⟨ak.range N z,ak.range X z⟩)
    go_wp2_with (first
     | ((with_reducible refine cp 82 (.load 58 _) ?_);refine Gn z 58 (.tmp 81) z J 5 z h1 d5 d8.o.1 b7 b9 (by rw[R.o.1.cells.1];exact be) ?_)
     | ((with_reducible refine cp 84 (.load 58 _) ?_);refine Gn z 58 (.tmp 83) z K 5 z a0 d5 d8.o.2 b7 b9 (by rw[R.o.2.cells.1];exact be) ?_)
     |fail)
    refine(ig x h1 a0 U0 e0.o.1 e0.o.2).mono ?_;clear p0 p1 p2 p3 p4 h4 i1 g4 g6 q0 q1 q2 q3 q4 h0 i3 i4 f7 e0 d8;rintro e U1 ⟨rfl,g⟩;have a6:=O (HV.o.trans (g.mono HV.o.size));have a7:=O (EQ (A.o.1.below g) (A.o.2.below g));clear g A HV;have e1:=O (EQ (ExL.sub HY.o.1 a6.o) (ExL.sub HY.o.2 a6.o));have d6:Hid (U1.rangeAt J 12 a3/\U1.rangeAt K 12 a4):=O (by have N:=a7.o.1;have X:=a7.o.2;rw[jj]at N X;have g1:=ak.range N z;have g2:=ak.range X z;rw[show (Gr .i64 k::I U::I V:: .string S:: .string t::h1).length=12 by simp[R.o.1.cells.1]]at g1;rw[show (Gr .i64 k::I U::I V:: .string S:: .string t::a0).length=12 by simp[R.o.2.cells.1]]at g2;exact⟨g1,g2⟩)
    go_wp2_with (first
     | ((with_reducible refine cp 89 (.load 58 _) ?_);refine aS z 58 (.tmp 88) z J 12 z a3 d5 d6.o.1 b7 b9 (by rw[HY.o.1.cells.1];exact be) ?_)
     | ((with_reducible refine cp 91 (.load 58 _) ?_);refine aS z 58 (.tmp 90) z K 12 z a4 d5 d6.o.2 b7 b9 (by rw[HY.o.2.cells.1];exact be) ?_)
     |fail)
    refine(ig y a3 a4 U1 e1.o.1 e1.o.2).mono ?_;clear e1 d6;rintro e U2 ⟨rfl,g⟩;have a9:=O (a6.trans (g.mono a6.size));have a5:=O (EQ (a7.1.below g) (a7.2.below g));clear g a7 a6;have i2:=(a5.1.cell 19).trans F.2.2.2.2.2.1;have h5:=(a5.2.cell 19).trans E.2.2.2.2.2.1;have M:=f2.1 c9 d1 c8 d4 U2 e2.1 (e2.2.1.Do a9) (e2.2.2.Do a9);rw[e8.o.1]at M;go_wp2_with fail;apply M.mono;clear M i2 h5;rintro e U3 ⟨rfl,g⟩;have a8:=O (a9.trans (g.mono a9.size));have d9:=O (EQ (a5.1.below g) (a5.2.below g));clear g a5 a9;have f8:=(d9.1.cell 20).trans F.2.2.2.2.2.2.1;have h6:=(d9.2.cell 20).trans E.2.2.2.2.2.2.1;have M:=f2.2 b8 d3 b5 d0 U3 e3.1 (e3.2.1.Do a8) (e3.2.2.Do a8);rw[e8.o.2]at M;go_wp2_with fail
    apply M.mono;clear M f8 h6;rintro e U4 ⟨rfl,g⟩;have g7:=O (e4.trans ((a8.trans (g.mono a8.size)).mono e4.size));clear g d9 a8;go_wp2;go_roundg (b4- (i+1));case measure=>omega
    case rel=>exact⟨i+1,by omega,z,congrArg (Gr .i64) k2,g7⟩
  .obtain rfl:i=b4:=by omega
   have o7:¬ (i:Int)< (i:Int):=by omega
   go_wp2;apply d7;go_wp2;go_ret;exact⟨z,HB⟩
mutual
theorem vf:∀s:St,yf s
 | .mk k l c s t x y body els id sl ot lo=>by
  show nK body/\nK els
  exact⟨ka body (ij body),ka els (ij els)⟩
theorem ij:∀ (l:List St),∀s∈l,yf s
 | [],s,hs=>by cases hs
 |y::r,s,hs=>by
  by_cases e:s=y
  .rw[e]
   exact vf y
  .exact ij r s ((FQ.1 hs).resolve_left e)
end
theorem wV(l:List St):nK l:=ka l (ij l)
theorem iH:(prog.info? 28).map (·.size)=some 5:=by kernel_rfl
theorem wb:∃d,prog.underlying 28=some d/\d.isRow=true:=by
 have h:(prog.underlying 28).map (·.isRow)=some true:=by kernel_rfl
 let ⟨d,g,j⟩:=Option.map_eq_some_iff.1 h
 exact⟨d,g,j⟩
theorem zt:∃i z,prog.info? 28=some i/\i.zero=some z/\z.cells=(List.replicate 5 (.slice none 0 0):List Fr).toArray:=fH (by kernel_rfl)
theorem pu.at{ok:Nat->Prop}{P:Pg}{n1 n2 n3 n4:Fr}(h:pu ok w P v0 v1 v2 v3 v4 n1 n2 n3 n4)(g:bL w W):pu (fun _=>True) W P v0 v1 v2 v3 v4 n1 n2 n3 n4:=(h.keep fun b o u _ j=>ai g b o u j).CQ fun _ _=>trivial
theorem fy{g:Type}{E:El g}{ok:Nat->Prop}{l:List g}(h:Ro E ok w v l):v.oneCell'=true:=by obtain⟨a,cap,rfl,-⟩:=h;rfl
theorem lG{Q Q0:Nat->Prop}{P:Pg}{n1 n2 n3 n4:Fr}{z:Nat}(d5:prog.follows .mixedOrders=true)(HN:Hid (P.threads.length=j))(b8:Hid (True->aF j g))(Z:Hid (pu Q w P v8 v9 u0 (.slice a0 j g) v0 n1 n2 n3 n4))(G2:Hid (pu Q0 w P u1 v6 v7 (.slice a1 j n0) v1 v2 v3 v4 v5))(A:Hid (bL w W/\(ak W z 30 (fU P v8 v9 u0 (.slice a0 j g) v0 n1 n2 n3 n4 [])/\ak W (z+1) 30 (fU P u1 v6 v7 (.slice a1 j n0) v1 v2 v3 v4 v5 []))/\ak W n5 28 [v0,n1,n2,n3,n4]/\ak W n6 28 [v1,v2,v3,v4,v5]))(hU:l2.length=153:=by rfl):
  Code.wp prog (Jp 3 (f12.body.getD .skip)) (bodyPost prog f12 (sk w)) ⟨(u2::u3::Pt z::Pt (z+1)::u4::Pt n5::Pt n6::l2).toArray,[]⟩ W:=by
 revert l2;apply aN;iterate 153 intro _
 change Code.wp _ _ _ _ _;conv in (Jp _ _)=>whnf
 refine wk fun KK a3=>?_;have p0:W.cell? (ad n5 0)=some (v0):=A.2.2.1.cell 0;have q0:W.cell? (ad n6 0)=some (v1):=A.2.2.2.cell 0;go_wp2_with fail;apply (fJ P.nv (Z.at A.1).nv (G2.at A.1).nv).mono;rintro e V ⟨rfl,C⟩;have J:Hid (bL w V/\(ak V z 30 (fU P v8 v9 u0 (.slice a0 j g) v0 n1 n2 n3 n4 [])/\ak V (z+1) 30 (fU P u1 v6 v7 (.slice a1 j n0) v1 v2 v3 v4 v5 []))/\ak V n5 28 [v0,n1,n2,n3,n4]/\ak V n6 28 [v1,v2,v3,v4,v5]):=O ⟨A.1.trans (C.mono A.1.size),⟨A.2.1.1.below C,A.2.1.2.below C⟩,A.2.2.1.below C,A.2.2.2.below C⟩;clear C A p0 q0;have p1:V.cell? (ad n5 1)=some (n1):=J.2.2.1.cell 1;have q1:V.cell? (ad n6 1)=some (v2):=J.2.2.2.cell 1;go_wp2_with fail
 apply (fJ P.na (Z.at J.1).na (G2.at J.1).na).mono;rintro e X ⟨rfl,C⟩;have K:Hid (bL w X/\(ak X z 30 (fU P v8 v9 u0 (.slice a0 j g) v0 n1 n2 n3 n4 [])/\ak X (z+1) 30 (fU P u1 v6 v7 (.slice a1 j n0) v1 v2 v3 v4 v5 []))/\ak X n5 28 [v0,n1,n2,n3,n4]/\ak X n6 28 [v1,v2,v3,v4,v5]):=O ⟨J.1.trans (C.mono J.1.size),⟨J.2.1.1.below C,J.2.1.2.below C⟩,J.2.2.1.below C,J.2.2.2.below C⟩;clear C J p1 q1;have p2:X.cell? (ad n5 2)=some (n2):=K.2.2.1.cell 2;have q2:X.cell? (ad n6 2)=some (v3):=K.2.2.2.cell 2;go_wp2_with fail;apply (fJ P.nm (Z.at K.1).nm (G2.at K.1).nm).mono;rintro e U ⟨rfl,C⟩
 have G:Hid (bL w U/\(ak U z 30 (fU P v8 v9 u0 (.slice a0 j g) v0 n1 n2 n3 n4 [])/\ak U (z+1) 30 (fU P u1 v6 v7 (.slice a1 j n0) v1 v2 v3 v4 v5 []))/\ak U n5 28 [v0,n1,n2,n3,n4]/\ak U n6 28 [v1,v2,v3,v4,v5]):=O ⟨K.1.trans (C.mono K.1.size),⟨K.2.1.1.below C,K.2.1.2.below C⟩,K.2.2.1.below C,K.2.2.2.below C⟩;clear C K p2 q2;have p3:U.cell? (ad n5 3)=some (n3):=G.2.2.1.cell 3;have q3:U.cell? (ad n6 3)=some (v4):=G.2.2.2.cell 3;go_wp2_with fail;apply (fJ P.nc (Z.at G.1).nc (G2.at G.1).nc).mono;rintro e Y ⟨rfl,C⟩
 have M:Hid (bL w Y/\(ak Y z 30 (fU P v8 v9 u0 (.slice a0 j g) v0 n1 n2 n3 n4 [])/\ak Y (z+1) 30 (fU P u1 v6 v7 (.slice a1 j n0) v1 v2 v3 v4 v5 []))/\ak Y n5 28 [v0,n1,n2,n3,n4]/\ak Y n6 28 [v1,v2,v3,v4,v5]):=O ⟨G.1.trans (C.mono G.1.size),⟨G.2.1.1.below C,G.2.1.2.below C⟩,G.2.2.1.below C,G.2.2.2.below C⟩;clear C G p3 q3;have p4:Y.cell? (ad n5 4)=some (n4):=M.2.2.1.cell 4;have q4:Y.cell? (ad n6 4)=some (v5):=M.2.2.2.cell 4;go_wp2_with fail;apply (fJ P.nh (Z.at M.1).nh (G2.at M.1).nh).mono;rintro e N ⟨rfl,C⟩
 have a5:Hid (bL w N/\(ak N z 30 (fU P v8 v9 u0 (.slice a0 j g) v0 n1 n2 n3 n4 [])/\ak N (z+1) 30 (fU P u1 v6 v7 (.slice a1 j n0) v1 v2 v3 v4 v5 []))/\ak N n5 28 [v0,n1,n2,n3,n4]/\ak N n6 28 [v1,v2,v3,v4,v5]):=O ⟨M.1.trans (C.mono M.1.size),⟨M.2.1.1.below C,M.2.1.2.below C⟩,M.2.2.1.below C,M.2.2.2.below C⟩;clear C M p4 q4;go_wp2;apply a3;clear a3 KK;have R:Hid (bL w N/\ak N z 30 (fU P v8 v9 u0 (.slice a0 j g) v0 n1 n2 n3 n4 [])/\ak N (z+1) 30 (fU P u1 v6 v7 (.slice a1 j n0) v1 v2 v3 v4 v5 [])):=O ⟨a5.1,a5.2.1.1,a5.2.1.2⟩;clear a5;refine wk fun KK a3=>?_;go_wp2
 go_loopg [7] j (fun x iv wr=>∃i:Nat,i<=j/\x=j-i/\iv=I i/\Hid (bL w wr/\ak wr z 30 (fU P v8 v9 u0 (.slice a0 j g) v0 n1 n2 n3 n4 [])/\ak wr (z+1) 30 (fU P u1 v6 v7 (.slice a1 j n0) v1 v2 v3 v4 v5 [])));case atStart=>exact⟨0,Nat.zero_le _,rfl,rfl,R⟩
 case round=>
  clear R;obtain⟨i,hi,rfl,rfl,R⟩:=hrel;have p5:wr.cell? (ad z 5)=some (.slice a0 j g):=R.2.1.cell 5;by_cases d3:i<j
  .have e4:(i:Int)< (j:Int):=by omega
   have e5:(0:Int)<=(i:Int):=by omega
   have d8:Hid (wrap64 ((i:Int)+1)=((i+1:Nat):Int)):=O (by have h1:=(b8 trivial).1;have h2:=(b8 trivial).2;have:=Gi ((i:Int)+1) (by omega);rw[this];omega)
   obtain⟨x,hx⟩:∃x,P.threads[i]? =some x:=⟨_,FC (by rw[HN.o];exact d3)⟩;obtain⟨F,hV⟩:=eX wr.drew;have H:Hid (bL w F/\ak F z 30 (fU P v8 v9 u0 (.slice a0 j g) v0 n1 n2 n3 n4 [])/\ak F (z+1) 30 (fU P u1 v6 v7 (.slice a1 j n0) v1 v2 v3 v4 v5 [])):=O (by rw[<-hV];exact⟨R.1.trans (FB _ _).drew,R.2.1.drew,R.2.2.drew⟩);obtain⟨t1,d1,c9,-,b5⟩:=(Z.at H.1).threads;obtain⟨t2,d2,a9,-,c8⟩:=(G2.at H.1).threads;obtain⟨b1,o1,e0,rfl,-,a4,d6⟩:=b5 i x hx;obtain⟨b2,o2,e3,rfl,-,a2,d4⟩:=c8 i x hx;obtain⟨x1,y1,rfl,b9,d0⟩:=d6;obtain⟨x2,y2,rfl,d9,b4⟩:=d4;simp only[Value.slice.injEq]at c9 a9;obtain⟨rfl,-,-⟩:=c9;obtain⟨rfl,-,-⟩:=a9;let ⟨BN,a7⟩:=eX (x.body.length)
   have S:Hid ((F.cell? (ad b1 (o1+i*3))=some (.string x.name)/\F.cell? (ad b1 (o1+i*3+1))=some (I x.locals)/\F.cell? (ad b1 (o1+i*3+2))=some (.slice x1 BN y1))/\F.cell? (ad b2 (o2+i*3))=some (.string x.name)/\F.cell? (ad b2 (o2+i*3+1))=some (I x.locals)/\F.cell? (ad b2 (o2+i*3+2))=some (.slice x2 BN y2)):=O (by rw[<-a7];exact⟨⟨a4 0 _ rfl,a4 1 _ rfl,a4 2 _ rfl⟩,a2 0 _ rfl,a2 1 _ rfl,a2 2 _ rfl⟩)
   have a6:=wV x.body x1 x2 y1 y2 F b9 d0 b4;rw[a7]at a6;have b7:=O a6;let ⟨e2,a8⟩:=eX (x.name)
   obtain⟨lc,b6⟩:=eX ((x.locals:Int));rw[a8,b6]at S;clear b5 c8 a4 a2 b9 d9 d0 b4 a6 hx a7 a8 b6 x;go_wp2;apply al [] (fun W'=>bL F W') d5;rw[hV];clear hV R p5;have e7:Hid (bL F F):=O (FB _ _);apply fa 0;refine fK (fun D=>D.cell? (ad z 5)=some (.slice (some (ad b1 o1)) j g)) 1 (fun D E=> (H.2.1.below E).cell 5) ?_;apply nk 2;refine nm ?_;apply fa 4;apply fK _ 5 (fun D E=>ai E _ _ _ S.1.1);apply fa 6;refine fK (fun D=>D.cell? (ad (z+1) 5)=some (.slice (some (ad b2 o2)) j n0)) 7 (fun D E=> (H.2.2.below E).cell 5) ?_;refine nm ?_;apply ke 8;apply fK _ 11 (fun D E=>ai E _ _ _ S.2.1);refine nm ?_;apply ke 12
   refine fK (fun D=>D.cell? (ad z 5)=some (.slice (some (ad b1 o1)) j g)) 15 (fun D E=> (H.2.1.below E).cell 5) ?_;refine nm ?_;apply ke 16;apply fK _ 19 (fun D E=>ai E _ _ _ S.1.2.1);refine nm ?_;apply fa 20;refine fK (fun D=>D.cell? (ad (z+1) 5)=some (.slice (some (ad b2 o2)) j n0)) 21 (fun D E=> (H.2.2.below E).cell 5) ?_;apply nk 22;refine nm ?_;apply fa 24;apply fK _ 25 (fun D E=>ai E _ _ _ S.2.2.1);apply nk 26;refine nm ?_;apply nk 28;refine fK (fun D=>D.cell? (ad z 5)=some (.slice (some (ad b1 o1)) j g)) 30 (fun D E=> (H.2.1.below E).cell 5) ?_;apply fa 31;refine nm ?_;apply nk 32;apply fK _ 34 (fun D E=>ai E _ _ _ S.1.2.2);apply fa 35;refine nm ?_
   refine fK (fun D=>D.cell? (ad (z+1) 5)=some (.slice (some (ad b2 o2)) j n0)) 36 (fun D E=> (H.2.2.below E).cell 5) ?_;apply ke 37;refine nm ?_;apply fK _ 40 (fun D E=>ai E _ _ _ S.2.2.2);refine nm ?_;refine jT 41 (by kernel_rfl) rfl (fun d7 hK=>?_);rw[aD (by rfl)];go_simp;apply b7.mono;rintro e W3 ⟨rfl,C⟩;have e6:=O C;apply hK _ _ (fun _=>e6);clear hK d7 C;try refine nm ?_
   apply nk 42;refine nm ?_;refine dn ?_;have G:Hid (bL w W3/\ak W3 z 30 (fU P v8 v9 u0 (.slice (some (ad b1 o1)) j g) v0 n1 n2 n3 n4 [])/\ak W3 (z+1) 30 (fU P u1 v6 v7 (.slice (some (ad b2 o2)) j n0) v1 v2 v3 v4 v5 [])):=O ⟨H.1.trans (e6.mono H.1.size),H.2.1.below e6,H.2.2.below e6⟩;clear e7 e6 H b7 S;go_wp2;go_roundg (j- (i+1));case measure=>omega
   case rel=>exact⟨i+1,by omega,rfl,congrArg (Gr .i64) d8,G⟩
  .obtain rfl:i=j:=by omega
   have e1:¬ (i:Int)< (i:Int):=by omega
   go_wp2;apply a3;go_wp2;go_ret;exact⟨rfl,R.1⟩
theorem np{Q Q0:Nat->Prop}(P:Pg)(h1:ei Q w P l2)(h2:ei Q0 w P l3):Jq prog 12 #[.agg l2.toArray,.agg l3.toArray] w (sk w):=by
 let ⟨h7,i1,b4,b8,b5⟩:=zt
 let ⟨d3,e6,d6⟩:=wb
 have d0:prog.follows .mixedOrders=true:=by kernel_rfl
 let ⟨v0,v1,v4,v5,K,n1,n2,n3,n4,d1,g1⟩:=h1
 let ⟨a2,a5,a4,i2,N,H,G,J,M,d2,g2⟩:=h2
 obtain⟨a6,a8,f3,c9,-⟩:=id g1.threads;obtain⟨a1,a3,e9,-,-⟩:=id g2.threads;subst f3 e9;obtain⟨E,hN⟩:=eX P.threads.length;rw[hN]at d1 d2 g1 g2 c9;have HN:=O hN;have e3:=O fun _:True=>c9;have X:=O g1;have Y:=O g2;have HP:=O (EQ d1 d2);clear d1 d2 g1 g2 hN c9;go_enter func12,ntmps12;refine wk fun KK i4=>?_;go_wp2_with (first
  | (with_reducible refine cp 2 (.box 30 _) ?_;refine aJ rfl (.tmp 0) rfl l2 rfl w.1.size rfl ?_;intro W1 k1 b1 e2;have K1:=O k1;have B1:=O b1;clear k1 b1)
  | (with_reducible refine cp 3 (.box 30 _) ?_;refine aJ rfl (.tmp 1) rfl l3 rfl (w.1.size+1) e2 ?_;intro W2 k2 b2 s2;have K2:=O k2;have B2:=O b2;clear k2 b2)
 )
 apply i4;clear i4 KK;obtain⟨z,hz⟩:=eX w.1.size;rw[hz]at K1 K2;rw[hz];have HZ:=O hz;have HQ:Hid (FM w.1.size w W2/\ak W2 z 30 (fU P v0 v1 v4 (.slice a6 E a8) K n1 n2 n3 n4 [])/\ak W2 (z+1) 30 (fU P a2 a5 a4 (.slice a1 E a3) N H G J M [])):=O (by rw[<-HP.o.1,<-HP.o.2];have f2:=B1.trans (B2.mono (by have:=B1.size;omega));exact⟨f2,K1.below B2,K2⟩)
 clear K1 K2 B1 B2 e2 s2 hz;refine wk fun KK i4=>?_;have p0:W2.cell? (ad z 0)=some (v0):=HQ.2.1.cell 0;have q0:W2.cell? (ad (z+1) 0)=some (a2):=HQ.2.2.cell 0;go_wp2_with fail;apply (rF P.vars (X.at HQ.1).vars (Y.at HQ.1).vars).mono;rintro e U1 ⟨rfl,g⟩;have a7:Hid (FM w.1.size w U1/\ak U1 z 30 (fU P v0 v1 v4 (.slice a6 E a8) K n1 n2 n3 n4 [])/\ak U1 (z+1) 30 (fU P a2 a5 a4 (.slice a1 E a3) N H G J M [])):=O ⟨HQ.1.trans (g.mono HQ.1.size),HQ.2.1.below g,HQ.2.2.below g⟩;clear g HQ p0 q0;have p1:U1.cell? (ad z 1)=some (v1):=a7.2.1.cell 1;have q1:U1.cell? (ad (z+1) 1)=some (a5):=a7.2.2.cell 1;go_wp2_with fail;apply (lt P.CW (X.at a7.1).CW (Y.at a7.1).CW).mono;rintro e U2 ⟨rfl,g⟩
 have V:Hid (FM w.1.size w U2/\ak U2 z 30 (fU P v0 v1 v4 (.slice a6 E a8) K n1 n2 n3 n4 [])/\ak U2 (z+1) 30 (fU P a2 a5 a4 (.slice a1 E a3) N H G J M [])):=O ⟨a7.1.trans (g.mono a7.1.size),a7.2.1.below g,a7.2.2.below g⟩;clear g a7 p1 q1;have p2:U2.cell? (ad z 2)=some (I P.CT):=V.2.1.cell 2;have q2:U2.cell? (ad (z+1) 2)=some (I P.CT):=V.2.2.cell 2;have p3:U2.cell? (ad z 3)=some (I P.conds):=V.2.1.cell 3;have q3:U2.cell? (ad (z+1) 3)=some (I P.conds):=V.2.2.cell 3;have p4:U2.cell? (ad z 4)=some (v4):=V.2.1.cell 4;have q4:U2.cell? (ad (z+1) 4)=some (a4):=V.2.2.cell 4;go_wp2_with fail;apply (lt P.CX (X.at V.1).CX (Y.at V.1).CX).mono;rintro e U3 ⟨rfl,g⟩
 have a0:Hid (FM w.1.size w U3/\ak U3 z 30 (fU P v0 v1 v4 (.slice a6 E a8) K n1 n2 n3 n4 [])/\ak U3 (z+1) 30 (fU P a2 a5 a4 (.slice a1 E a3) N H G J M [])):=O ⟨V.1.trans (g.mono V.1.size),V.2.1.below g,V.2.2.below g⟩;clear g V p2 p3 p4 q2 q3 q4;have p5:U3.cell? (ad z 5)=some (.slice a6 E a8):=a0.2.1.cell 5;have q5:U3.cell? (ad (z+1) 5)=some (.slice a1 E a3):=a0.2.2.cell 5;have p6:U3.cell? (ad z 6)=some (I P.main):=a0.2.1.cell 6;have q6:U3.cell? (ad (z+1) 6)=some (I P.main):=a0.2.2.cell 6;have p7:U3.cell? (ad z 7)=some (I P.stmts):=a0.2.1.cell 7;have q7:U3.cell? (ad (z+1) 7)=some (I P.stmts):=a0.2.2.cell 7;go_wp2;apply i4;clear i4 KK p5 p6 p7 q5 q6 q7;refine wk fun KK i4=>?_
 obtain⟨F,hV⟩:=eX U3.drew;have i5:Hid (FM w.1.size w F/\ak F z 30 (fU P v0 v1 v4 (.slice a6 E a8) K n1 n2 n3 n4 [])/\ak F (z+1) 30 (fU P a2 a5 a4 (.slice a1 E a3) N H G J M [])):=O (by rw[<-hV];exact⟨a0.1.trans (FB _ _).drew,a0.2.1.drew,a0.2.2.drew⟩);have d9:Hid ([K,n1,n2,n3,n4].length=5/\∀v∈ [K,n1,n2,n3,n4],v.oneCell'=true):=O ⟨rfl,fun v hv=>by
  simp only[FQ,FO,or_false]at hv;rcases hv with h|h|h|h|h
  .rw[h];exact fy X.nv
  .rw[h];exact fy X.na
  .rw[h];exact fy X.nm
  .rw[h];exact fy X.nc
  .rw[h];exact fy X.nh⟩
 have e4:Hid ([N,H,G,J,M].length=5/\∀v∈ [N,H,G,J,M],v.oneCell'=true):=O ⟨rfl,fun v hv=>by
  simp only[FQ,FO,or_false]at hv;rcases hv with h|h|h|h|h
  .rw[h];exact fy Y.nv
  .rw[h];exact fy Y.na
  .rw[h];exact fy Y.nm
  .rw[h];exact fy Y.nc
  .rw[h];exact fy Y.nh⟩
 have d7:Hid (F.rangeAt z 8 [K,n1,n2,n3,n4]/\F.rangeAt (z+1) 8 [N,H,G,J,M]):=O ⟨ak.range (pre:=[v0,v1,I P.CT,I P.conds,v4,.slice a6 E a8,I P.main,I P.stmts]) (mid:=[K,n1,n2,n3,n4]) (post:=[]) i5.2.1 rfl,ak.range (pre:=[a2,a5,I P.CT,I P.conds,a4,.slice a1 E a3,I P.main,I P.stmts]) (mid:=[N,H,G,J,M]) (post:=[]) i5.2.2 rfl⟩;clear a0;go_wp2_with fail;apply al [] (fun W'=>FM F.1.size F W') d0;rw[hV];clear hV;have Z:Hid (FM F.1.size F F):=O (FB _ _);refine fa 0 ?_;refine tl 1 68 Z 28 67 z 8 [K,n1,n2,n3,n4] d3 (fun W hS=>fun j u hu=>ai hS _ _ _ (d7.1 j u hu)) e6 d6 iH ?_;refine fa 2 ?_;refine tl 3 70 Z 28 69 (z+1) 8 [N,H,G,J,M] d3 (fun W hS=>fun j u hu=>ai hS _ _ _ (d7.2 j u hu)) e6 d6 iH ?_
 refine nm ?_;refine cj [4,5] (by kernel_rfl) ?_ (by decide);intro i hi;simp only[FQ,FO,or_false]at hi;rcases hi with rfl|rfl
 .refine⟨_,rfl,rfl,fun C D=>?_⟩;obtain⟨S,f8⟩:=eX F.1.size;refine aw b4 b8 b5 rfl S f8 ?_;intro X1 A g h8;have b9:=O (Z.trans (g.mono Z.size));have g7:=O A;have e8:Hid (F.1.size<=S/\S<X1.1.size):=O ⟨by have:=Z.size;omega,A.lt⟩;change C (Gf _ (some 5) _) X1;apply D _ _ (fun _=>b9);clear D C A g;refine nm ?_;refine oD 5 fun C D=>?_;obtain⟨U,f4⟩:=eX X1.1.size;refine aw b4 b8 b5 rfl U f4 ?_;intro X2 A g i0;have e1:=O (b9.trans (g.mono b9.size));have f5:=O A;have g8:Hid (F.1.size<=U/\U<X2.1.size):=O ⟨by have:=b9.size;omega,A.lt⟩;have f0:=O (g7.below g);have e0:Hid (S≠U):=O (by have h1:=e8.2;omega);change C (Gf _ (some 6) _) X2;apply D _ _ (fun _=>e1);clear D C A g;refine nm ?_;refine oD 6 fun C D=>?_
  refine an iH (.tmp 5) (.tmp 68) rfl S [K,n1,n2,n3,n4] _ rfl rfl f0 rfl d9 ?_;intro X3 A R;have d5:=O (R.below e8.1 e1);have g6:=O A;have h3:=O (R.CV (by have:=e0.o;omega) f5);change C (Gf _ none _) X3;apply D _ _ (fun _=>d5);clear D C A R;refine oD 7 fun C D=>?_;refine an iH (.tmp 6) (.tmp 70) rfl U [N,H,G,J,M] _ rfl rfl h3 rfl e4 ?_;intro X4 A R;have a9:=O (R.below g8.1 d5);have g9:=O A;have h6:=O (R.CV (by have:=e0.o;omega) g6);change C (Gf _ none _) X4;apply D _ _ (fun _=>a9);clear D C A R;try simp only[Gf]
  refine dn ?_;have c8:Hid (FM w.1.size w X4/\(ak X4 z 30 (fU P v0 v1 v4 (.slice a6 E a8) K n1 n2 n3 n4 [])/\ak X4 (z+1) 30 (fU P a2 a5 a4 (.slice a1 E a3) N H G J M []))/\ak X4 S 28 [K,n1,n2,n3,n4]/\ak X4 U 28 [N,H,G,J,M]):=O ⟨i5.1.trans (a9.mono i5.1.size),⟨i5.2.1.below a9,i5.2.2.below a9⟩,h6,g9⟩;go_wp2;apply i4;clear i4 KK;exact lG d0 HN e3 X Y c8
 .refine⟨_,rfl,rfl,fun C D=>?_⟩;obtain⟨U,h5⟩:=eX F.1.size;refine aw b4 b8 b5 rfl U h5 ?_;intro X5 A g h9;have b7:=O (Z.trans (g.mono Z.size));have f6:=O A;have d8:Hid (F.1.size<=U/\U<X5.1.size):=O ⟨by have:=Z.size;omega,A.lt⟩;change C (Gf _ (some 6) _) X5;apply D _ _ (fun _=>b7);clear D C A g;refine nm ?_;refine oD 4 fun C D=>?_;obtain⟨S,f7⟩:=eX X5.1.size;refine aw b4 b8 b5 rfl S f7 ?_;intro X6 A g i3;have e5:=O (b7.trans (g.mono b7.size));have h0:=O A;have g4:Hid (F.1.size<=S/\S<X6.1.size):=O ⟨by have:=b7.size;omega,A.lt⟩;have f9:=O (f6.below g);have e7:Hid (S≠U):=O (by have h1:=d8.2;omega);change C (Gf _ (some 5) _) X6;apply D _ _ (fun _=>e5);clear D C A g;refine nm ?_;refine oD 6 fun C D=>?_
  refine an iH (.tmp 5) (.tmp 68) rfl S [K,n1,n2,n3,n4] _ rfl rfl h0 rfl d9 ?_;intro X7 A R;have d4:=O (R.below g4.1 e5);have g5:=O A;have f1:=O (R.CV (by have:=e7.o;omega) f9);change C (Gf _ none _) X7;apply D _ _ (fun _=>d4);clear D C A R;refine oD 7 fun C D=>?_;refine an iH (.tmp 6) (.tmp 70) rfl U [N,H,G,J,M] _ rfl rfl f1 rfl e4 ?_;intro X8 A R;have b6:=O (R.below d8.1 d4);have h4:=O A;have g3:=O (R.CV (by have:=e7.o;omega) g5);change C (Gf _ none _) X8;apply D _ _ (fun _=>b6);clear D C A R;try simp only[Gf]
  refine dn ?_;have c8:Hid (FM w.1.size w X8/\(ak X8 z 30 (fU P v0 v1 v4 (.slice a6 E a8) K n1 n2 n3 n4 [])/\ak X8 (z+1) 30 (fU P a2 a5 a4 (.slice a1 E a3) N H G J M []))/\ak X8 S 28 [K,n1,n2,n3,n4]/\ak X8 U 28 [N,H,G,J,M]):=O ⟨i5.1.trans (b6.mono i5.1.size),⟨i5.2.1.below b6,i5.2.2.below b6⟩,g3,h4⟩;go_wp2;apply i4;clear i4 KK;exact lG d0 HN e3 X Y c8
structure Wn (w:Fk):Prop where
 o:hR w
 h:oA w
 e:gc w
theorem Wn.below{w':Fk}(h:Wn w)(g:bL w w'):Wn w':=⟨h.o.below g,h.h.below g,h.e.below g h.e.1⟩
theorem ja(s:ByteArray)(w:Fk)(H:Wn w):Jq prog 10 #[.string s] w (lh w (eC pQ s)):=
 qU ah s w H.e H.o fun W a cap j g hd=>lP _ a cap W g (H.below j).h hd (jH (et s))
theorem Ae:(if co ah (bh s).1=true then fg (bh s).1 else (fz,(0,0),2))=pQ (bh s).1:=by unfold pQ;rw[aD (et s),aD (et s),nZ (et s) (kX s)]
theorem rd(s:ByteArray)(w:Fk):Jq prog 11 #[.string s] w (lh w (eC pQ s)):=by
 have h:=rt ah s w fun W a cap g hd=>kp _ a cap W g hd (jH (et s));have e:eC (fun l=>if co ah l=true then fg l else (fz,(0,0),2)) s=eC pQ s:=by unfold eC;rw[<-Ae (s:=s)]
 rw[e]at h;exact h
theorem eh(w:Fk)(H:Wn w):Jq prog 9 #[] w (sk w):=by
 obtain⟨e4,e5,d3,d1,d2⟩:=hJ;obtain⟨e3,e1,a9,b5,b6⟩:=hG;have HW:=O H;clear H;have a7:=ja AY w HW.o;rw[BI]at a7;go_enter func9,ntmps9;refine wk fun Y D=>?_;go_wp2_with fail;refine D.o _ _ ?_;clear D Y;refine wk fun Y D=>?_;go_wp2_with fail;refine a7.mono ?_;clear a7;rintro e W1 ⟨⟨F,rfl,M⟩,J⟩;have a8:=O J;have b4:=O M;have d9:=O M.cells;clear J M;obtain⟨b1,c9⟩:∃b,W1.1.size=b:=⟨_,z⟩;go_wp2_with (first
  | ((with_reducible refine cp 1 (.alloc 30) ?_);refine ag d3 d1 d2 z z b1 c9 ?_;intro W2 U b2 s2;have X:=O U;have G:=O b2;clear U b2)
  | ((with_reducible refine cp 2 (.alloc 32) ?_);refine ag a9 b5 b6 z z (b1+1) s2 ?_;intro W3 k3 b3 s3;have Z:=O k3;have K:=O b3;clear k3 b3)
  | ((with_reducible refine cY (.store 30 (.tmp 1) _) ?_);refine af bN z (.tmp 1) (.tmp 9) z b1 F _ z z (X.o.below K.o) z d9.o ?_;intro W4 k4 c4;have C:=O (EQ k4 c4);clear k4 c4)
  | ((with_reducible refine cY (.store 32 (.tmp 2) _) ?_);refine af br z (.tmp 2) (.tmp 10) z (b1+1) [.int .i64 (cW mZ).2.1.1,.int .i64 (cW mZ).2.1.2] _ z z (C.o.2.CV (by omega) Z.o) z (cl _ _) ?_;intro W k5 c5;have E:=O (EQ k5 c5);clear k5 c5)
  |fail)
 refine D.o _ _ ?_;clear D Y;have a3:Hid (FM W1.1.size W1 W):=O (E.o.2.below (by omega) (C.o.2.below (by omega) (G.o.trans (K.o.mono G.o.size))));have N:Hid (FM w.1.size w W/\ak W b1 30 F/\ei (fun _=>True) W (cW mZ).1 F):=O ⟨a8.o.trans (a3.o.mono a8.o.size),E.o.2.CV (by omega) C.o.1,(b4.o.keep fun b o u _ S=>ai a3.o b o u S).CQ fun _ _=>trivial⟩;clear X G Z K C E a3 b4 a8 s2 s3 c9;have a4:=ja AW W (HW.o.below N.o.1);rw[BH]at a4;refine wk fun Y D=>?_;go_wp2_with fail;refine a4.mono ?_;clear a4;rintro e R ⟨⟨d7,rfl,M⟩,J⟩;have V:Hid (FM w.1.size w R/\ak R b1 30 F/\ei (fun _=>True) R (cW mZ).1 F):=O ⟨N.o.1.trans (J.mono N.o.1.size),N.o.2.1.below J,N.o.2.2.keep fun b o u _ S=>ai J b o u S⟩
 have d6:=O M.cells;clear J M N;obtain⟨b2,d0⟩:∃b,R.1.size=b:=⟨_,z⟩;go_wp2_with (first
  | ((with_reducible refine cp 4 (.alloc 30) ?_);refine ag d3 d1 d2 z z b2 d0 ?_;intro W7 U b2 s2;have X:=O U;have G:=O b2;clear U b2)
  | ((with_reducible refine cp 5 (.alloc 32) ?_);refine ag a9 b5 b6 z z (b2+1) s2 ?_;intro W8 k3 b3 s3;have Z:=O k3;have K:=O b3;clear k3 b3)
  | ((with_reducible refine cY (.store 30 (.tmp 4) _) ?_);refine af bN z (.tmp 4) (.tmp 14) z b2 d7 _ z z (X.o.below K.o) z d6.o ?_;intro W9 k4 c4;have C:=O (EQ k4 c4);clear k4 c4)
  | ((with_reducible refine cY (.store 32 (.tmp 5) _) ?_);refine af br z (.tmp 5) (.tmp 15) z (b2+1) [.int .i64 1,.int .i64 15] _ z z (C.o.2.CV (by omega) Z.o) z (cl _ _) ?_;intro A k5 c5;have E:=O (EQ k5 c5);clear k5 c5)
  |fail)
 refine D.o _ _ ?_;clear D Y;have a1:Hid (FM R.1.size R A):=O (E.o.2.below (by omega) (C.o.2.below (by omega) (G.o.trans (K.o.mono G.o.size))));have Q:Hid (FM w.1.size w A/\ak A b1 30 F/\ei (fun _=>True) A (cW mZ).1 F):=O ⟨V.o.1.trans (a1.o.mono V.o.1.size),V.o.2.1.below a1.o,V.o.2.2.keep fun b o u _ S=>ai a1.o b o u S⟩;have HQ:=O E.o.1;clear X G Z K C E a1 V s2 s3 d0;obtain⟨v0,v1,v4,v5,n0,n1,n2,n3,n4,a2,a6⟩:=Q.o.2.2;obtain⟨a0,c0,b8,-,-⟩:=id a6.vars;obtain⟨a5,c5,b9,-,c8⟩:=id a6.threads;have d5:∃t,(cW mZ).1.threads[0]? =some t/\t.locals=1:=by
  have j:=ua.2.2.2;cases hq:(cW mZ).1.threads with
  |nil=>rw[hq]at j;cases j
  |cons t r=> rw[hq]at j;simp only[List.map_cons,List.cons.injEq]at j;exact⟨t,z,j.1⟩
 have b7:(cW mZ).1.threads.length=1:=by have j:=congrArg List.length ua.2.2.2;simpa using j
 obtain⟨t,ht,d4⟩:=d5;obtain⟨g,of,cs,rfl,-,hr,d8⟩:=c8 0 t ht;obtain⟨xa,xc,rfl,-,-⟩:=d8;rw[ua.2.2.1]at b8;rw[b7]at b9;subst b8 b9;have p7:A.cell? ⟨b1,7,none⟩=some (.int .i64 3):=(Q.o.2.1.cell 7).trans (by rw[a2];exact congrArg (fun n:Nat=>some (Gr .i64 (n:Int))) ua.2.1);have p0:A.cell? ⟨b1,0,none⟩=some (.slice a0 1 c0):=(Q.o.2.1.cell 0).trans (by rw[a2];rfl);have p5:A.cell? ⟨b1,5,none⟩=some (.slice (some ⟨g,of,none⟩) 1 c5):=(Q.o.2.1.cell 5).trans (by rw[a2];rfl);have e2:A.cell? ⟨g,of+1,none⟩=some (.int .i64 1):=by have j:=hr 1 _ z;rw[d4]at j;simpa using j
 have q0:A.cell? ⟨b2+1,0,none⟩=some (.int .i64 1):=HQ.o.cell 0;have q1:A.cell? ⟨b2+1,1,none⟩=some (.int .i64 15):=HQ.o.cell 1;have e0:(cW mZ).2.2=0:=by rw[ua.1]
 have HE:=O Q.o.1;clear a2 a6 c8 b7 ht d4 hr Q;try simp only[e0]
 go_wp2_with fail;go_ret;exact⟨z,HE.o⟩
end Go.Proofs.YtgppcdfgdaggjaaGreatDoor
