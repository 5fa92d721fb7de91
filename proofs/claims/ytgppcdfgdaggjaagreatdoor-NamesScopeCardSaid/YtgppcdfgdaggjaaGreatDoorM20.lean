/- Texts laid together. No condition but what each law says. -/
import Derived.Test.YtgppcdfgdaggjaaGreatDoorM18
set_option maxRecDepth 100000
set_option maxHeartbeats 16000000
namespace Go.Proofs.YtgppcdfgdaggjaaGreatDoor
open Go.RowKit Go.Maps Go.Proofs.Tryz
open Go renaming Value→Fr,World→Fk,Calls→Jq,bodyPost→Gb,wpList_load_mid→Gn
open Go.World renaming block_lt_of_cell?→FF
open Go.RowKit.Below renaming refl→FB
open List renaming getElem?_cons_succ→FH,getElem?_cons_zero→FE,getD_eq_getElem?_getD→FD,getElem?_eq_getElem→FC,drop_eq_getElem_cons→FZ,drop_eq_nil_of_le→Gw
open Nat renaming le_refl→FL,zero_add→GE
open Go.Code renaming wp→FR
open And renaming intro→EQ
open Bool renaming and_false→If,true_and→Gx
open Go.Value renaming int→Gr
variable {V W w w0:Fk}{b d i j:Nat}{s t:ByteArray}{v0 v1 v2 v3:Fr}{l2:List Fr}{z0 z1:Bool}{a:Option Addr}
theorem yr{o:Nat}{cs:List Fr}(h:w0.rangeAt b o cs)(g:bL w0 w):w.rangeAt b o cs:=fun j v A=>by have:=h j v A;rw[<-this];simp[World.cell?,g.block b (FF w0 _ this)]
theorem je(x:Ex)(cs:List Fr)(w:Fk)(Q:ExL (fun _=>True) w cs x):Jq prog 123 #[.agg cs.toArray] w fun e w'=>e= .returned (.bool (iB x))/\Below w.1.size w w':=by
 let ⟨k,n,s,sl,lo,D,args⟩:=x
 unfold ExL at Q;obtain⟨a,cap,rfl,-,-⟩:=Q;obtain⟨R,g⟩:=eX (iB (.mk k n s sl lo D args));rw[g];have g:(decide (k=0)&& (decide (n=0)&& (decide (s=aq)&& (decide (D=0)&&decide (args.length=0)))))=R:=g;obtain⟨E,U⟩:=eX args.length;rw[U]at g ⊢;have S:Below w.1.size w (w.alloc (.cells #[I k,I n,.string s,I sl,.bool lo,I D,.slice a E cap] 58)):=(FB _ w).alloc (FL _) _;have V:=ak.new w 58 [I k,I n,.string s,I sl,.bool lo,I D,.slice a E cap];have F:=O S;have C:=O V;clear S V U;go_enter func123,ntmps123;refine wk fun W N=>?_;go_wp2;apply N;clear N W;obtain⟨z,A⟩:=eX w.1.size;rw[A]at C;generalize w.alloc (.cells #[I k,I n,.string s,I sl,.bool lo,I D,.slice a E cap] 58)=Y at *;rw[A];have c0:=C.cell 0
 have c1:=C.cell 1;have c2:=C.cell 2;have c5:=C.cell 5;have c6:=C.cell 6;simp only[FH,FE]at c0 c1 c2 c5 c6;clear C;rcases bq k 0 with H|H
 .have j:R=false:=by rw[<-g];simp[H]
  subst j;have Z:(k==0)=false:=by simpa using H
  clear g;go_wp2;go_ret;exact⟨rfl,A▸F.o⟩
 subst H;rcases bq n 0 with J|J
 .have j:R=false:=by rw[<-g];simp[J]
  subst j;have a0:(n==0)=false:=by simpa using J
  clear g;go_wp2;go_ret;exact⟨rfl,A▸F.o⟩
 subst J;rcases bq s aq with G|G
 .have j:R=false:=by rw[<-g];simp[G]
  subst j;have a5:¬s.toList=[]:=fun e=>G (cG (e.trans bc.symm));have a1:s.toList.isEmpty=false:=by rw[eA];exact dv G
  clear g;go_wp2;go_ret;exact⟨rfl,A▸F.o⟩
 subst G;have a3:aq.toList=[]:=bc;have X:aq.toList.isEmpty=true:=by rw[bc];rfl
 rcases bq D 0 with M|M
 .have j:R=false:=by rw[<-g];simp[M]
  subst j;have a2:(D==0)=false:=by simpa using M
  clear g;go_wp2;go_ret;exact⟨rfl,A▸F.o⟩
 subst M;rcases bq E 0 with K|K
 .have j:R=false:=by rw[<-g];simp[K]
  subst j;have a4:((E:Int)==0)=false:=by simpa using K
  clear g;go_wp2;go_ret;exact⟨rfl,A▸F.o⟩
 subst K;have j:R=true:=by rw[<-g];rfl
 subst j;clear g;go_wp2;go_ret;exact⟨rfl,A▸F.o⟩
def yg(d:Nat):Prop:=∀ (s:St) (cs:List Fr) (w:Fk),s.nb->bX (fun _=>True) w cs s->Jq prog 85 #[.agg cs.toArray,.int .i64 (d:Int)] w fun e w'=>e= .returned (.bool (jv ah s d))/\Below w.1.size w w'
def oK(d:Nat):Prop:=∀ (l:List St) (a:Option Addr) (cap:Nat) (w:Fk),St.DJ l->eK w a cap l->Jq prog 44 #[.slice a l.length cap,.int .i64 (d:Int)] w fun e w'=>e= .returned (.bool (bB ah l d))/\Below w.1.size w w'
theorem yn{z:Nat}{k l c:Int}{x y:Ex}{body els:List St}{id sl ot:Int}{lo:Bool}{R:Bool}(hd:d<=24)(S:oK (d+1))(hb:bL w V)(hz:gy V z 0 (.mk k l c s t x y body els id sl ot lo))(F:(.mk k l c s t x y body els id sl ot lo:St).nb)(X:(bB ah body (d+1)&&bB ah els (d+1))=R)(hU:l2.length=142:=by rfl):
  FR prog (Jp 9 (f85.body.getD .skip)) (Gb prog f85 (fun e w'=>e= .returned (.bool R)/\bL w w')) ⟨(v0::I d::Pt z::v1:: .bool false::I k::l2).toArray,[]⟩ V:=by
 revert l2;apply aN;iterate 142 intro _
 change FR _ _ _ _ _;have b5:(d:Int)+1<=9223372036854775807:=by omega
 let ⟨R1,a0⟩:=eX (bB ah body (d+1))
 let ⟨R2,a1⟩:=eX (bB ah els (d+1))
 rw[a0,a1]at X;obtain⟨-,-,-,-,-,-,-,⟨ab,a8,D,a3⟩,M,U,C,a4⟩:=hz.parts;simp only[GE]at D C;unfold St.nb at F;have g:=S body ab a8 V F.2.2.2.2.1 a3;rw[a0,show ((d+1:Nat):Int)=(d:Int)+1 by omega]at g;have K:=O (fun W (h:eK W M U els)=>S els M U W F.2.2.2.2.2 h);have Z:=O a4;have E:=O hb;have N:=O X;have Q:=O a1;have J:Hid (∀Y,bL V Y->Y.cell? (ad z 20)=some (.slice M els.length U)):=O (fun Y hv=>by rw[<-C];simp[World.cell?,hv.block z (FF V _ C)]);let ⟨N1,a5⟩:=eX (body.length)
 rw[a5]at g D;clear hz F a4 a3 hb S X a0 a1 C a5;conv in (Jp _ _)=>whnf
 go_wp2_with fail;apply g.mono;rintro e V1 ⟨rfl,j⟩;have G:=O (E.trans (j.mono E.size));cases R1
 .clear K Z g j D J E Q;have b4:R=false:=by rw[<-N.o];rfl
  subst b4;have H:=G.o;go_wp2;go_ret;exact⟨rfl,H⟩
 have A:=K V1 (Z.below j);rw[Q.o,show ((d+1:Nat):Int)=(d:Int)+1 by omega]at A;have a7:=J V1 j;let ⟨N2,a2⟩:=eX (els.length)
 rw[a2]at A a7;have a9:R2=R:=by rw[<-N.o];rfl
 subst a9;clear K Z E g j D J Q N a2;go_wp2_with fail;apply A.mono;rintro e V2 ⟨rfl,a6⟩;have H:=G.trans (a6.mono G.size);clear A a6 G a7;go_wp2;go_ret;exact⟨rfl,H⟩
theorem wx{z:Nat}{k l c:Int}{x y:Ex}{body els:List St}{id sl ot:Int}{lo:Bool}{R:Bool}(hd:d<=24)(ih:oK (d+1))(hb:bL w W)(Q:gy W z 0 (.mk k l c s t x y body els id sl ot lo))(Z:(.mk k l c s t x y body els id sl ot lo:St).nb)(J:(((decide (k=4)||decide (k=5))||decide (body.length=0))&& ((decide (k=4)||decide (els.length=0))&& (bB ah body (d+1)&&bB ah els (d+1))))=R)(hU:l2.length=142:=by rfl):
  FR prog (Jp 8 (f85.body.getD .skip)) (Gb prog f85 (fun e w'=>e= .returned (.bool R)/\bL w w')) ⟨(v0::I d::Pt z::v1:: .bool false::I k::l2).toArray,[]⟩ W:=by
 revert l2;apply aN;iterate 142 intro _
 change FR _ _ _ _ _;obtain⟨-,-,-,-,-,-,-,⟨ab,a4,X,a1⟩,ae,a6,V,a2⟩:=Q.parts;simp only[GE]at X V;let ⟨D,M⟩:=eX ((bB ah body (d+1)&&bB ah els (d+1)))
 rw[M]at J;let ⟨S,a0⟩:=eX (body.length)
 let ⟨K,U⟩:=eX (els.length)
 rw[a0]at X J;rw[U]at V J;have E:=O hb;have g:=O (EQ ih (EQ Q (EQ Z M)));clear Q Z a2 a1 hb ih M a0 U;conv in (Jp _ _)=>whnf
 refine wk fun N C=>?_;have A:=O J;clear J;rcases bq k 4 with k4|k4
 .have a3:(k !=4)=true:=by simpa using k4
  have a7:(k==4)=false:=by simpa using k4
  rcases bq k 5 with k5|k5
  .have a5:(k !=5)=true:=by simpa using k5
   rcases bq S 0 with j|j
   .have Y:(0:Int)< (S:Int):=by omega
    have H:R=false:=by rw[<-A.o];simp[k4,k5,j]
    subst H;have F:=E.o;go_wp2;go_ret;exact⟨rfl,F⟩
   .subst j;rcases bq K 0 with j|j
    .have Y:(0:Int)< (K:Int):=by omega
     have H:R=false:=by rw[<-A.o];simp[k4,j]
     subst H;have F:=E.o;go_wp2;go_ret;exact⟨rfl,F⟩
    .subst j;have G:D=R:=by rw[<-A.o];simp
     subst G;clear A;go_wp2;apply C;clear C N;exact yn hd g.1 E g.2.1 g.2.2.1 g.2.2.2
  .subst k5;rcases bq K 0 with j|j
   .have Y:(0:Int)< (K:Int):=by omega
    have H:R=false:=by rw[<-A.o];simp[j]
    subst H;have F:=E.o;go_wp2;go_ret;exact⟨rfl,F⟩
   .subst j;have G:D=R:=by rw[<-A.o];simp
    subst G;clear A;go_wp2;apply C;clear C N;exact yn hd g.1 E g.2.1 g.2.2.1 g.2.2.2
 .subst k4;have G:D=R:=by rw[<-A.o];simp
  subst G;clear A;go_wp2;apply C;clear C N;exact yn hd g.1 E g.2.1 g.2.2.1 g.2.2.2
theorem vu{z:Nat}{k l c:Int}{x y:Ex}{body els:List St}{id sl ot:Int}{lo:Bool}{R:Bool}(hd:d<=24)(ih:oK (d+1))(hb:bL w W)(hz:gy W z 0 (.mk k l c s t x y body els id sl ot lo))(b6:(.mk k l c s t x y body els id sl ot lo:St).nb)(hR:((if k=3 then de ah y 24 else iB y)&& ((if z0=true then de ah x 24 else iB x)&& (((decide (k=4)||decide (k=5))||decide (body.length=0))&& ((decide (k=4)||decide (els.length=0))&& (bB ah body (d+1)&&bB ah els (d+1))))))=R)(hU:l2.length=139:=by rfl):
  FR prog (Jp 7 (f85.body.getD .skip)) (Gb prog f85 (fun e w'=>e= .returned (.bool R)/\bL w w')) ⟨(v0::I d::Pt z::v1:: .bool false::I k::v2::v3:: .bool z0::l2).toArray,[]⟩ W:=by
 revert l2;apply aN;iterate 139 intro _
 change FR _ _ _ _ _;let ⟨a7,a5,a3⟩:=gf
 let ⟨C,hC⟩:=eX ((((decide (k=4)||decide (k=5))||decide (body.length=0))&& ((decide (k=4)||decide (els.length=0))&& (bB ah body (d+1)&&bB ah els (d+1)))))
 rw[hC]at hR;obtain⟨-,-,-,-,-,hx,hy,-⟩:=hz.parts;simp only[GE]at hx hy;let ⟨cx,d0,a2,c8⟩:=ExL.at0 hx
 let ⟨Z,d1,a6,b9⟩:=ExL.at0 hy
 have Q:=O b6;unfold St.nb at b6;let ⟨X,hX⟩:=eX ((if z0=true then de ah x 24 else iB x))
 let ⟨a4,hY⟩:=eX ((if k=3 then de ah y 24 else iB y))
 rw[hX,hY]at hR;have D:=O hR;have HZ:=O hz;have N:=O hb;have HX:=O d0;have E:=O (EQ ih (EQ hz hC));have b8:Hid (z0=true->Jq prog 122 #[.agg cx.toArray,I 24] W fun e w'=>e= .returned (.bool X)/\bL W w'):=O (fun h=>by have:=iI 24 (by decide) x cx W b6.2.2.1 c8;rw[aD h]at hX;rw[hX]at this;exact this)
 have c9:Hid (z0=false->Jq prog 123 #[.agg cx.toArray] W fun e w'=>e= .returned (.bool X)/\bL W w'):=O (fun h=>by have:=je x cx W c8;rw[am (by rw[h];decide)]at hX;rw[hX]at this;exact this)
 have b5:Hid (∀g,bL W g->k=3->Jq prog 122 #[.agg Z.toArray,I 24] g fun e w'=>e= .returned (.bool a4)/\bL g w'):=O (fun g M h=>by have:=iI 24 (by decide) y Z g b6.2.2.2.1 (b9.below M);rw[aD h]at hY;rw[hY]at this;exact this)
 have b4:Hid (∀g,bL W g->k≠3->Jq prog 123 #[.agg Z.toArray] g fun e w'=>e= .returned (.bool a4)/\bL g w'):=O (fun g M h=>by have:=je y Z g (b9.below M);rw[am h]at hY;rw[hY]at this;exact this)
 have a1:Hid (∀g,bL W g->g.rangeAt z 12 Z):=O (fun g M=>yr d1 M);clear hz b6 hb ih hC hx hy c8 b9 hX hY d0 d1 hR;conv in (Jp _ _)=>whnf
 refine wk fun b7 HK=>?_;cases z0
 .have a0:=c9 rfl;clear b8 c9;rcases bq k 3 with k3|k3
  .have d2:(k !=3)=true:=by simpa using k3
   have d3:(k==3)=false:=by simpa using k3
   have V:=O (fun g M=>b4 g M k3);clear b4 b5;go_wp2_with ((with_reducible refine gU _ (.load 58 (.tmp 88)) ?_);refine aS rfl 58 (.tmp 88) rfl z 5 rfl cx a7 HX a5 a3 (by rw[a2];exact bC) ?_);apply a0.mono;rintro e Y ⟨rfl,j⟩;have A:=O (N.trans (j.mono N.size));have U:=O (HZ.below j);have G:=V Y j;have J:=O (a1 Y j);clear a0 V a1 N HZ HX a2 j;cases X
   .clear G J E Q;have K:R=false:=by rw[<-D.o];simp
    subst K;have F:=A.o;go_wp2;go_ret;exact⟨rfl,F⟩
   go_wp2_with ((with_reducible refine gU _ (.load 58 (.tmp 108)) ?_);refine aS rfl 58 (.tmp 108) rfl z 12 rfl Z a7 J a5 a3 (by rw[a6];exact bC) ?_);apply G.mono;rintro e V2 ⟨rfl,H⟩;have S:=O (A.trans (H.mono A.size));have a8:=O (U.below H);clear G J A U H a6;cases a4
   .clear E Q;have K:R=false:=by rw[<-D.o];simp
    subst K;have F:=S.o;go_wp2;go_ret;exact⟨rfl,F⟩
   have a9:C=R:=by rw[<-D.o];rfl
   subst a9;clear D;go_wp2;apply HK;clear HK b7;exact wx hd E.1 S a8 Q E.2.2
  .subst k3;have V:=O (fun g M=>b5 g M rfl);clear b4 b5;go_wp2_with ((with_reducible refine gU _ (.load 58 (.tmp 88)) ?_);refine aS rfl 58 (.tmp 88) rfl z 5 rfl cx a7 HX a5 a3 (by rw[a2];exact bC) ?_);apply a0.mono;rintro e Y ⟨rfl,j⟩;have A:=O (N.trans (j.mono N.size));have U:=O (HZ.below j);have G:=V Y j;have J:=O (a1 Y j);clear a0 V a1 N HZ HX a2 j;cases X
   .clear G J E Q;have K:R=false:=by rw[<-D.o];simp
    subst K;have F:=A.o;go_wp2;go_ret;exact⟨rfl,F⟩
   go_wp2_with ((with_reducible refine gU _ (.load 58 (.tmp 98)) ?_);refine aS rfl 58 (.tmp 98) rfl z 12 rfl Z a7 J a5 a3 (by rw[a6];exact bC) ?_);apply G.mono;rintro e V2 ⟨rfl,H⟩;have S:=O (A.trans (H.mono A.size));have a8:=O (U.below H);clear G J A U H a6;cases a4
   .clear E Q;have K:R=false:=by rw[<-D.o];simp
    subst K;have F:=S.o;go_wp2;go_ret;exact⟨rfl,F⟩
   have a9:C=R:=by rw[<-D.o];rfl
   subst a9;clear D;go_wp2;apply HK;clear HK b7;exact wx hd E.1 S a8 Q E.2.2
 .have a0:=b8 rfl;clear b8 c9;rcases bq k 3 with k3|k3
  .have d2:(k !=3)=true:=by simpa using k3
   have d3:(k==3)=false:=by simpa using k3
   have V:=O (fun g M=>b4 g M k3);clear b4 b5;go_wp2_with ((with_reducible refine gU _ (.load 58 (.tmp 79)) ?_);refine aS rfl 58 (.tmp 79) rfl z 5 rfl cx a7 HX a5 a3 (by rw[a2];exact bC) ?_);apply a0.mono;rintro e Y ⟨rfl,j⟩;have A:=O (N.trans (j.mono N.size));have U:=O (HZ.below j);have G:=V Y j;have J:=O (a1 Y j);clear a0 V a1 N HZ HX a2 j;cases X
   .clear G J E Q;have K:R=false:=by rw[<-D.o];simp
    subst K;have F:=A.o;go_wp2;go_ret;exact⟨rfl,F⟩
   go_wp2_with ((with_reducible refine gU _ (.load 58 (.tmp 108)) ?_);refine aS rfl 58 (.tmp 108) rfl z 12 rfl Z a7 J a5 a3 (by rw[a6];exact bC) ?_);apply G.mono;rintro e V2 ⟨rfl,H⟩;have S:=O (A.trans (H.mono A.size));have a8:=O (U.below H);clear G J A U H a6;cases a4
   .clear E Q;have K:R=false:=by rw[<-D.o];simp
    subst K;have F:=S.o;go_wp2;go_ret;exact⟨rfl,F⟩
   have a9:C=R:=by rw[<-D.o];rfl
   subst a9;clear D;go_wp2;apply HK;clear HK b7;exact wx hd E.1 S a8 Q E.2.2
  .subst k3;have V:=O (fun g M=>b5 g M rfl);clear b4 b5;go_wp2_with ((with_reducible refine gU _ (.load 58 (.tmp 79)) ?_);refine aS rfl 58 (.tmp 79) rfl z 5 rfl cx a7 HX a5 a3 (by rw[a2];exact bC) ?_);apply a0.mono;rintro e Y ⟨rfl,j⟩;have A:=O (N.trans (j.mono N.size));have U:=O (HZ.below j);have G:=V Y j;have J:=O (a1 Y j);clear a0 V a1 N HZ HX a2 j;cases X
   .clear G J E Q;have K:R=false:=by rw[<-D.o];simp
    subst K;have F:=A.o;go_wp2;go_ret;exact⟨rfl,F⟩
   go_wp2_with ((with_reducible refine gU _ (.load 58 (.tmp 98)) ?_);refine aS rfl 58 (.tmp 98) rfl z 12 rfl Z a7 J a5 a3 (by rw[a6];exact bC) ?_);apply G.mono;rintro e V2 ⟨rfl,H⟩;have S:=O (A.trans (H.mono A.size));have a8:=O (U.below H);clear G J A U H a6;cases a4
   .clear E Q;have K:R=false:=by rw[<-D.o];simp
    subst K;have F:=S.o;go_wp2;go_ret;exact⟨rfl,F⟩
   have a9:C=R:=by rw[<-D.o];rfl
   subst a9;clear D;go_wp2;apply HK;clear HK b7;exact wx hd E.1 S a8 Q E.2.2
theorem hF{z:Nat}{k l c:Int}{x y:Ex}{body els:List St}{id sl ot:Int}{lo:Bool}{nm:Bool}{R:Bool}(hd:d<=24)(ih:oK (d+1))(hb:bL w W)(hz:gy W z 0 (.mk k l c s t x y body els id sl ot lo))(V:(.mk k l c s t x y body els id sl ot lo:St).nb)(Y:((if nm=true then ah s else decide (s=aq))&& ((if z0=true then ah t else decide (t=aq))&& ((if k=3 then de ah y 24 else iB y)&& ((if z1=true then de ah x 24 else iB x)&& (((decide (k=4)||decide (k=5))||decide (body.length=0))&& ((decide (k=4)||decide (els.length=0))&& (bB ah body (d+1)&&bB ah els (d+1))))))))=R)(hU:l2.length=139:=by rfl):
  FR prog (Jp 6 (f85.body.getD .skip)) (Gb prog f85 (fun e w'=>e= .returned (.bool R)/\bL w w')) ⟨(v0::I d::Pt z::v1:: .bool false::I k:: .bool nm:: .bool z0:: .bool z1::l2).toArray,[]⟩ W:=by
 revert l2;apply aN;iterate 139 intro _
 change FR _ _ _ _ _;let ⟨C,hC⟩:=eX (((if k=3 then de ah y 24 else iB y)&& ((if z1=true then de ah x 24 else iB x)&& (((decide (k=4)||decide (k=5))||decide (body.length=0))&& ((decide (k=4)||decide (els.length=0))&& (bB ah body (d+1)&&bB ah els (d+1)))))))
 rw[hC]at Y;have E:=O (EQ ih (EQ V hC));unfold St.nb at V;have a5:=fun W=>fB s W V.1;have X:=fun W=>fB t W V.2.1;have a4:ah aq=false:=by decide +kernel
 let ⟨p1,c8⟩:=eX (ah s)
 let ⟨S,a1⟩:=eX (ah t)
 have HS:Hid (p1=true->¬s=aq):=O (fun h e=>by rw[e,a4]at c8;rw[<-c8]at h;cases h);have a7:Hid (S=true->¬t=aq):=O (fun h e=>by rw[e,a4]at a1;rw[<-a1]at h;cases h);rw[c8]at a5 Y;rw[a1]at X Y;have j:=O Y;have Z:=O hz;have HB:=O hb;clear hz V hb ih hC c8 a1 a4 Y;have q3:=Z.parts.2.2.2.1;simp only[GE]at q3;conv in (Jp _ _)=>whnf
 have HQ:Hid (∀K,bL W K->K.cell? (ad z 3)=some (.string s)/\K.cell? (ad z 4)=some (.string t)):=O (fun K hv=>by have h:=(Z.below hv).parts;simp only[GE]at h;exact⟨h.2.2.2.1,h.2.2.2.2.1⟩)
 have b8:=bc;have b5:aq.toList.isEmpty=true:=by rw[bc];rfl
 refine wk fun a2 J=>?_;go_wp2_with fail;apply (a5 _).mono;rintro e V1 ⟨rfl,a3⟩;let ⟨b9,a6⟩:=HQ V1 a3
 have H:=O (HB.trans (a3.mono HB.size));have U:=O (Z.below a3);clear a5 HB Z a3 HQ q3;have a0:Hid (∀K,bL V1 K->K.cell? (ad z 4)=some (.string t)):=O (fun K hv=>by have h:=(U.below hv).parts;simp only[GE]at h;exact h.2.2.2.2.1)
 cases nm
 .cases p1
  .rcases bq s aq with N|N
   .have b7:¬s.toList=[]:=fun e=>N (cG (e.trans bc.symm));have b6:s.toList.isEmpty=false:=by rw[eA];exact dv N
    have A:R=false:=by rw[<-j.o];simp[N]
    subst A;have g:=H.o;go_wp2;go_ret;exact⟨rfl,g⟩
   .subst N;go_wp2_with fail;apply (X _).mono;rintro e V2 ⟨rfl,G⟩;have a8:=a0 V2 G;have F:=O (H.trans (G.mono H.size));have Q:=O (U.below G);clear X H U G a0 a6;cases z0
    .cases S
     .rcases bq t aq with D|D
      .have a9:¬t.toList=[]:=fun e=>D (cG (e.trans bc.symm));have b4:t.toList.isEmpty=false:=by rw[eA];exact dv D
       have A:R=false:=by rw[<-j.o];simp[D]
       subst A;have g:=F.o;go_wp2;go_ret;exact⟨rfl,g⟩
      .subst D;have M:C=R:=by rw[<-j.o];simp
       subst M;clear j;go_wp2;apply J;clear J a2;exact vu hd E.1 F Q E.2.1 E.2.2
     .have D:=a7 rfl;have A:R=false:=by rw[<-j.o];simp[D]
      subst A;have g:=F.o;go_wp2;go_ret;exact⟨rfl,g⟩
    .cases S
     .skip;have A:R=false:=by rw[<-j.o];simp
      subst A;have g:=F.o;go_wp2;go_ret;exact⟨rfl,g⟩
     .skip;have M:C=R:=by rw[<-j.o];simp
      subst M;clear j;go_wp2;apply J;clear J a2;exact vu hd E.1 F Q E.2.1 E.2.2
  .have N:=HS rfl;have A:R=false:=by rw[<-j.o];simp[N]
   subst A;have g:=H.o;go_wp2;go_ret;exact⟨rfl,g⟩
 .cases p1
  .skip;have A:R=false:=by rw[<-j.o];simp
   subst A;have g:=H.o;go_wp2;go_ret;exact⟨rfl,g⟩
  .go_wp2_with fail;apply (X _).mono;rintro e V2 ⟨rfl,G⟩;have a8:=a0 V2 G;have F:=O (H.trans (G.mono H.size));have Q:=O (U.below G);clear X H U G a0 a6;cases z0
   .cases S
    .rcases bq t aq with D|D
     .have a9:¬t.toList=[]:=fun e=>D (cG (e.trans bc.symm));have b4:t.toList.isEmpty=false:=by rw[eA];exact dv D
      have A:R=false:=by rw[<-j.o];simp[D]
      subst A;have g:=F.o;go_wp2;go_ret;exact⟨rfl,g⟩
     .subst D;have M:C=R:=by rw[<-j.o];simp
      subst M;clear j;go_wp2;apply J;clear J a2;exact vu hd E.1 F Q E.2.1 E.2.2
    .have D:=a7 rfl;have A:R=false:=by rw[<-j.o];simp[D]
     subst A;have g:=F.o;go_wp2;go_ret;exact⟨rfl,g⟩
   .cases S
    .skip;have A:R=false:=by rw[<-j.o];simp
     subst A;have g:=F.o;go_wp2;go_ret;exact⟨rfl,g⟩
    .skip;have M:C=R:=by rw[<-j.o];simp
     subst M;clear j;go_wp2;apply J;clear J a2;exact vu hd E.1 F Q E.2.1 E.2.2
theorem yM(hd:d<=24)(X:oK (d+1)):yg d:=by
 intro a1 cs w W K;let ⟨k,l,c,s,t,x,y,body,els,id,sl,ot,lo⟩:=a1
 let ⟨R,J⟩:=eX (jv ah (.mk k l c s t x y body els id sl ot lo) d)
 rw[J];unfold jv at J;have a0:=K.cells.1;have M:bL w (w.alloc (.cells cs.toArray 60)):=(FB _ w).alloc rl _;have U:gy (w.alloc (.cells cs.toArray 60)) w.1.size 0 (.mk k l c s t x y body els id sl ot lo):=⟨cs,(ak.new w 60 cs).whole,K.below M⟩;have F:=O M;have D:=O U;have H:=O W;clear M U K a0 W;go_in;refine wk fun j g=>?_;go_wp2;apply g;clear g j;let ⟨z,C⟩:=eX (w.1.size)
 rw[C]at D;have F:=F;generalize w.alloc (.cells cs.toArray 60)=Z at *;rw[C];have c0:=D.parts.1;have E:=O J;clear J;have a2:¬ (24:Int)< (d:Int):=by omega
 rcases(show k<1∨15<k∨(1<=k/\k<=15) by omega) with G|G|⟨G,V⟩
 .have Q:R=false:=by rw[<-E.o,dv (show ¬1<=k by omega)];rfl
  subst Q;clear D E H;go_wp2;go_ret;exact⟨rfl,C▸F.o⟩
 .have Q:R=false:=by rw[<-E.o,dv (show ¬k<=15 by omega),If];rfl
  subst Q;have Y:¬k<1:=by omega
  clear D E H;go_wp2;go_ret;exact⟨rfl,C▸F.o⟩
 have Y:¬k<1:=by omega
 have h4:¬15<k:=by omega
 have N:=E.o;rw[eP G,eP V,eP hd,Gx,Gx,Gx]at N;clear E;have S:Hid (bL w Z):=by subst C;exact F
 have A:=O (EQ X (EQ S (EQ D (EQ H N))));clear N D F H X S;refine wk fun j g=>?_;go_wp2;apply g;clear g j;refine wk fun j g=>?_;go_wp2;apply g;clear g j;have a3:k=1∨k=2∨k=3∨k=4∨k=5∨k=6∨k=7∨k=8∨k=9∨k=10∨k=11∨k=12∨k=13∨k=14∨k=15:=by omega
 clear G V Y h4 c0;rcases a3 with rfl|rfl|rfl|rfl|rfl|rfl|rfl|rfl|rfl|rfl|rfl|rfl|rfl|rfl|rfl
 .skip;refine wk fun j g=>?_;go_wp2;apply g;clear g j;refine wk fun j g=>?_;go_wp2;apply g;clear g j;refine wk fun j g=>?_;go_wp2;apply g;clear g j;subst C;apply hF hd A.1 A.2.1 A.2.2.1 A.2.2.2.1;exact A.2.2.2.2
 .skip;refine wk fun j g=>?_;go_wp2;apply g;clear g j;refine wk fun j g=>?_;go_wp2;apply g;clear g j;refine wk fun j g=>?_;go_wp2;apply g;clear g j;subst C;apply hF hd A.1 A.2.1 A.2.2.1 A.2.2.2.1;exact A.2.2.2.2
 .skip;refine wk fun j g=>?_;go_wp2;apply g;clear g j;refine wk fun j g=>?_;go_wp2;apply g;clear g j;refine wk fun j g=>?_;go_wp2;apply g;clear g j;subst C;apply hF hd A.1 A.2.1 A.2.2.1 A.2.2.2.1;exact A.2.2.2.2
 .skip;refine wk fun j g=>?_;go_wp2;apply g;clear g j;refine wk fun j g=>?_;go_wp2;apply g;clear g j;refine wk fun j g=>?_;go_wp2;apply g;clear g j;subst C;apply hF hd A.1 A.2.1 A.2.2.1 A.2.2.2.1;exact A.2.2.2.2
 .skip;refine wk fun j g=>?_;go_wp2;apply g;clear g j;refine wk fun j g=>?_;go_wp2;apply g;clear g j;refine wk fun j g=>?_;go_wp2;apply g;clear g j;subst C;apply hF hd A.1 A.2.1 A.2.2.1 A.2.2.2.1;exact A.2.2.2.2
 .skip;refine wk fun j g=>?_;go_wp2;apply g;clear g j;refine wk fun j g=>?_;go_wp2;apply g;clear g j;refine wk fun j g=>?_;go_wp2;apply g;clear g j;subst C;apply hF hd A.1 A.2.1 A.2.2.1 A.2.2.2.1;exact A.2.2.2.2
 .skip;refine wk fun j g=>?_;go_wp2;apply g;clear g j;refine wk fun j g=>?_;go_wp2;apply g;clear g j;refine wk fun j g=>?_;go_wp2;apply g;clear g j;subst C;apply hF hd A.1 A.2.1 A.2.2.1 A.2.2.2.1;exact A.2.2.2.2
 .skip;refine wk fun j g=>?_;go_wp2;apply g;clear g j;refine wk fun j g=>?_;go_wp2;apply g;clear g j;refine wk fun j g=>?_;go_wp2;apply g;clear g j;subst C;apply hF hd A.1 A.2.1 A.2.2.1 A.2.2.2.1;exact A.2.2.2.2
 .skip;refine wk fun j g=>?_;go_wp2;apply g;clear g j;refine wk fun j g=>?_;go_wp2;apply g;clear g j;refine wk fun j g=>?_;go_wp2;apply g;clear g j;subst C;apply hF hd A.1 A.2.1 A.2.2.1 A.2.2.2.1;exact A.2.2.2.2
 .skip;refine wk fun j g=>?_;go_wp2;apply g;clear g j;refine wk fun j g=>?_;go_wp2;apply g;clear g j;refine wk fun j g=>?_;go_wp2;apply g;clear g j;subst C;apply hF hd A.1 A.2.1 A.2.2.1 A.2.2.2.1;exact A.2.2.2.2
 .skip;refine wk fun j g=>?_;go_wp2;apply g;clear g j;refine wk fun j g=>?_;go_wp2;apply g;clear g j;refine wk fun j g=>?_;go_wp2;apply g;clear g j;subst C;apply hF hd A.1 A.2.1 A.2.2.1 A.2.2.2.1;exact A.2.2.2.2
 .skip;refine wk fun j g=>?_;go_wp2;apply g;clear g j;refine wk fun j g=>?_;go_wp2;apply g;clear g j;refine wk fun j g=>?_;go_wp2;apply g;clear g j;subst C;apply hF hd A.1 A.2.1 A.2.2.1 A.2.2.2.1;exact A.2.2.2.2
 .skip;refine wk fun j g=>?_;go_wp2;apply g;clear g j;refine wk fun j g=>?_;go_wp2;apply g;clear g j;refine wk fun j g=>?_;go_wp2;apply g;clear g j;subst C;apply hF hd A.1 A.2.1 A.2.2.1 A.2.2.2.1;exact A.2.2.2.2
 .skip;refine wk fun j g=>?_;go_wp2;apply g;clear g j;refine wk fun j g=>?_;go_wp2;apply g;clear g j;refine wk fun j g=>?_;go_wp2;apply g;clear g j;subst C;apply hF hd A.1 A.2.1 A.2.2.1 A.2.2.2.1;exact A.2.2.2.2
 .skip;refine wk fun j g=>?_;go_wp2;apply g;clear g j;refine wk fun j g=>?_;go_wp2;apply g;clear g j;refine wk fun j g=>?_;go_wp2;apply g;clear g j;subst C;apply hF hd A.1 A.2.1 A.2.2.1 A.2.2.2.1;exact A.2.2.2.2
theorem xh:yg 25:=by
 intro J cs w K E;let ⟨k,l,c,s,t,x,y,body,els,id,sl,ot,lo⟩:=J
 have F:jv ah (.mk k l c s t x y body els id sl ot lo) 25=false:=by unfold jv;rw[dv (show ¬25<=24 by omega),Bool.false_and,If]
 rw[F];have A:bL w (w.alloc (.cells cs.toArray 60)):=(FB _ w).alloc rl _;have G:gy (w.alloc (.cells cs.toArray 60)) w.1.size 0 (.mk k l c s t x y body els id sl ot lo):=⟨cs,(ak.new w 60 cs).whole,E.below A⟩;have j:=O A;have C:=O G;clear A G E K F;go_in;refine wk fun M D=>?_;go_wp2;apply D;clear D M;let ⟨z,g⟩:=eX (w.1.size)
 rw[g]at C;have j:=j;generalize w.alloc (.cells cs.toArray 60)=Q at *;rw[g];have c0:=C.parts.1;clear C;rcases(show k<1∨15<k∨(1<=k/\k<=15) by omega) with H|H|⟨H,S⟩
 .go_wp2;go_ret;exact⟨rfl,g▸j.o⟩
 .have N:¬k<1:=by omega
  go_wp2;go_ret;exact⟨rfl,g▸j.o⟩
 .have N:¬k<1:=by omega
  have R:¬15<k:=by omega
  go_wp2;go_ret;exact⟨rfl,g▸j.o⟩
theorem zp{l:List St}(h:St.DJ l)(g:i<l.length):(l.getD i default).nb:=by rw[FD,FC g];exact St.DM h (FC g)
theorem pj{nm:ByteArray->Bool}{l:List St}(h:i<l.length):bB nm (l.drop i) d=(jv nm (l.getD i default) d&&bB nm (l.drop (i+1)) d):=by rw[FZ h,bB,FD,FC h];rfl
theorem eK.row{cap:Nat}{l:List St}(h:eK w a cap l)(C:j<l.length):∃ (b g:Nat) (cs:List Fr),a=some (ad b g)/\w.rangeAt b (g+j*25) cs/\bX (fun _=>True) w cs (l.getD j default):=by obtain⟨b,g,cs,F,-,E,D⟩:=h.2.at j C;exact⟨b,g,cs,F,fun i v A=>by have:=E i v A;rwa [GE]at this,D⟩
theorem uv(Z:yg d):oK d:=by
 intro l a cap w Y E;let ⟨a1,a2,a3⟩:=cv
 let ⟨g,M⟩:=eX (l.length)
 let ⟨R,j⟩:=eX (bB ah (l.drop 0) d)
 rw[show bB ah l d=R from j];have S:=E.1;rw[M]at S ⊢;have W:=O M;have D:=O j;have A:=O (EQ (FB w.1.size w) E);have a9:=O Y;have b4:=O Z;clear M j E Y Z;go_in;go_wp2;go_loopg [5] g (fun x iv wr=>∃i:Nat,i<=g/\x=g-i/\iv=I i/\Hid (bL w wr/\eK wr a cap l)/\Hid (bB ah (l.drop i) d=R));case atStart=>exact⟨0,Nat.zero_le _,z,z,A,D⟩
 case round=>
  clear A D;obtain⟨i,hi,rfl,rfl,A,D⟩:=hrel;let ⟨F,C⟩:=A
  by_cases a8:i<g
  .have a6:(i:Int)< (g:Int):=by omega
   have b8:(0:Int)<=(i:Int):=by omega
   have b7:(i:Int)+1<=9223372036854775807:=by have C:=S.1;have h2:=S.2;omega
   have N:i<l.length:=by rw[W.o];exact a8
   obtain⟨b2,a4,cs,rfl,U,J⟩:=C.row N;have X:=(zp a9 N);have G:=b4 (l.getD i default) cs wr X J;have E:=J.cells.1;have j:=D.o;rw[pj N]at j;let ⟨m,V⟩:=eX (jv ah (l.getD i default) d)
   rw[V]at G j;have Q:=O j;have b6:=O U;have HL:=O E;clear J X U E V j D;go_wp2_with (with_reducible refine l0 60 ?_;refine Gn z 60 (.tmp 14) z b2 (a4+i*25) z cs a1 b6.o a2 a3 (by rw[HL.o];exact ar) ?_);apply G.mono;rintro e w2 ⟨rfl,H⟩;have K:=F.trans (H.mono F.size);cases m
   .have b5:R=false:=Q.symm;subst b5;clear A G C F H;go_wp2;go_ret;exact⟨z,K⟩
   .have a5:Hid (bB ah (l.drop (i+1)) d=R):=O Q;have a0:=O (EQ K (C.below H));clear A G C F H K Q;go_wp2;go_roundg (g- (i+1));case measure=>omega
    case rel=>exact⟨i+1,by omega,z,z,a0,a5⟩
  .obtain rfl:i=g:=by omega
   have a6:¬ (i:Int)< (i:Int):=by omega
   have a7:R=true:=by rw[<-D.o,Gw (by rw[W.o];exact FL _)];unfold bB;rfl
   subst a7;clear C A;go_wp2;go_ret;exact⟨z,F⟩
theorem tF:∀ (m d:Nat),d+m=25->oK d
  |0,d,h=>by
    obtain rfl:d=25:=by omega
    exact uv xh
  |m+1,d,h=>uv (yM (by omega) (tF m (d+1) (by omega)))
theorem pr{nm:ByteArray->Bool}{l:List De}(h:i<l.length):co nm (l.drop i)=(fI nm (l.getD i default)&&co nm (l.drop (i+1))):=by rw[FZ h];show (fI nm l[i]&&_)=_;rw[FD,FC h];rfl
theorem kp(l:List De)(a:Option Addr)(cap:Nat)(w:Fk)(d1:aF l.length cap)(h:cQ (fun _=>True) w a l)(e6:∀d∈l,d.nb):Jq prog 16 #[.slice a l.length cap] w fun e w'=>e= .returned (I (if co ah l=true then 0 else 2))/\bL w w':=by
 let ⟨d5,d4,d2⟩:=ek
 let ⟨Q,hN⟩:=eX (l.length)
 let ⟨R,W⟩:=eX (co ah (l.drop 0))
 rw[show co ah l=R from W];rw[hN]at d1 ⊢;have HN:=O hN;have HR:=O W;have V:=O (EQ (FB w.1.size w) h);have f0:=O e6;have f3:=O (tF 24 1 rfl);clear hN W h e6;go_in;go_wp2;go_loopg [3] Q (fun x iv wr=>∃i:Nat,i<=Q/\x=Q-i/\iv=I i/\Hid (bL w wr/\cQ (fun _=>True) wr a l)/\Hid (co ah (l.drop i)=R));case atStart=>exact⟨0,Nat.zero_le _,rfl,rfl,V,HR⟩
 case round=>
  clear V HR;obtain⟨i,hi,rfl,rfl,V,HR⟩:=hrel;by_cases e8:i<Q
  .have f4:(i:Int)< (Q:Int):=by omega
   have f8:(0:Int)<=(i:Int):=by omega
   have f1:(i:Int)+1<=9223372036854775807:=by have h1:=d1.1;have h2:=d1.2;omega
   have a7:Hid (wrap64 ((i:Int)+1)=((i+1:Nat):Int)):=O (by rw[IntWalk.wrap64_in _ (by omega)];omega);clear f1;have a3:i<l.length:=by rw[HN.o];exact e8
   obtain⟨b2,a6,cs,rfl,-,d0,b5⟩:=V.2 i a3;have b8:=b5.cells.1;have b6:=b5.cells.2;have a0:=f0 (l.getD i default) (by rw[FD,FC a3];exact List.getElem_mem a3);have W:=HR.o;rw[pr a3]at W;let ⟨d,hd⟩:=eX (l.getD i default)
   rw[hd]at b5 a0 W;let ⟨k,ln,c,s,n,body⟩:=d
   obtain⟨N,S,rfl,d3,c9⟩:=b5;let ⟨m,hm⟩:=eX (fI ah ⟨k,ln,c,s,n,body⟩)
   rw[hm]at W;unfold fI at hm;dsimp only at b8 b6 d3 c9 d0 hm ⊢;unfold De.nb at a0;dsimp only at a0;have a9:=O (show wr.rangeAt b2 (a6+i*6) _ from fun j v hv=>d0 j v hv);let ⟨J,a8⟩:=eX (body.length)
   have e5:Hid (eK wr N S body/\body.length=J):=O ⟨⟨d3,c9⟩,a8⟩;rw[a8]at hm b8 b6 a9;have a2:bL wr (wr.alloc (.cells #[I k,I ln,I c,.string s,I n,.slice N J S] 46)):=(FB _ wr).alloc rl _;have d6:=ak.new wr 46 [I k,I ln,I c,.string s,I n,.slice N J S];have a4:=fun b7=>fB s b7 a0.1;have b9:=fun b7 (hV:bL wr b7)=>f3 body N S b7 a0.2 (e5.1.below hV);rw[a8]at b9;let ⟨p,hp⟩:=eX (ah s)
   let ⟨mb,b4⟩:=eX (bB ah body 1)
   rw[hp]at a4 hm;rw[b4]at b9 hm;have F:Hid (J=0->mb=true):=O (fun h0=>by have:=List.eq_nil_of_length_eq_zero (a8.trans h0);rw[this]at b4;rw[<-b4];unfold bB;rfl)
   have g:=O (EQ hm W);have E:=O b9;have HV:=O (EQ (V.1.trans (a2.mono V.1.size)) (EQ a2 (EQ d6 (V.2.below a2))));have c0:=d6.cell 0;simp only[FE]at c0;have a1:=O b8;have d7:=O b6;clear d3 c9 a2 d6 d0 hd V HR hm W a8 hp b4 a0 b9 e5 b8 b6 a3;have h7:wr.1.size=wr.1.size:=rfl;clear h7;rcases(show k<1∨6<k∨(1<=k/\k<=6) by omega) with h1|h1|⟨h1,h2⟩
   .have C:m=false:=by
     rw[<-g.o.1];have e1:¬k=1:=by omega
     have e2:¬ (k=2∨k=5):=by omega
     have e3:¬ (k=3∨k=4):=by omega
     have e4:¬k=6:=by omega
     rw[am e1,am e2,am e3,am e4];simp
    have D:R=false:=by rw[<-g.o.2,C];rfl
    subst D;have d8:=O HV.1;clear g F E HV a4 C;go_wp2_with (first| ((with_reducible refine gU _ (.load 46 (.tmp 14)) ?_);refine Gn rfl 46 (.tmp 14) rfl b2 (a6+i*6) rfl _ d5 a9 d4 d2 (by rw[a1.o];exact aR) ?_)| (with_reducible refine s0 46 ?_;refine bf aR rfl (.tmp 4) (.tmp 15) rfl wr [I 0,I 0,I 0,.string ⟨#[]⟩,I 0,.slice none 0 0] [I k,I ln,I c,.string s,I n,.slice N J S] rfl rfl a1 d7 _ rfl rfl rfl ?_));go_ret;exact⟨rfl,d8⟩
   .have C:m=false:=by
     rw[<-g.o.1];have e1:¬k=1:=by omega
     have e2:¬ (k=2∨k=5):=by omega
     have e3:¬ (k=3∨k=4):=by omega
     have e4:¬k=6:=by omega
     rw[am e1,am e2,am e3,am e4];simp
    have D:R=false:=by rw[<-g.o.2,C];rfl
    subst D;have h3:¬k<1:=by omega
    have d8:=O HV.1;clear g F E HV a4;go_wp2_with (first| ((with_reducible refine gU _ (.load 46 (.tmp 14)) ?_);refine Gn rfl 46 (.tmp 14) rfl b2 (a6+i*6) rfl _ d5 a9 d4 d2 (by rw[a1.o];exact aR) ?_)| (with_reducible refine s0 46 ?_;refine bf aR rfl (.tmp 4) (.tmp 15) rfl wr [I 0,I 0,I 0,.string ⟨#[]⟩,I 0,.slice none 0 0] [I k,I ln,I c,.string s,I n,.slice N J S] rfl rfl a1 d7 _ rfl rfl rfl ?_));go_ret;exact⟨rfl,d8⟩
   have h3:¬k<1:=by omega
   have h4:¬6<k:=by omega
   go_wp2_with (first| ((with_reducible refine gU _ (.load 46 (.tmp 14)) ?_);refine Gn rfl 46 (.tmp 14) rfl b2 (a6+i*6) rfl _ d5 a9 d4 d2 (by rw[a1.o];exact aR) ?_)| (with_reducible refine s0 46 ?_;refine bf aR rfl (.tmp 4) (.tmp 15) rfl wr [I 0,I 0,I 0,.string ⟨#[]⟩,I 0,.slice none 0 0] [I k,I ln,I c,.string s,I n,.slice N J S] rfl rfl a1 d7 _ rfl rfl rfl ?_));let ⟨z,hz⟩:=eX (wr.1.size)
   have e7:Hid (bL w (wr.alloc (.cells ([I k,I ln,I c,.string s,I n,.slice N J S]:List Fr).toArray 46))/\bL wr (wr.alloc (.cells ([I k,I ln,I c,.string s,I n,.slice N J S]:List Fr).toArray 46))/\ak (wr.alloc (.cells ([I k,I ln,I c,.string s,I n,.slice N J S]:List Fr).toArray 46)) z 46 [I k,I ln,I c,.string s,I n,.slice N J S]/\cQ (fun _=>True) (wr.alloc (.cells ([I k,I ln,I c,.string s,I n,.slice N J S]:List Fr).toArray 46)) (some (ad b2 a6)) l):=hz▸HV;apply (a4 _).mono;rw[hz]at c0 ⊢;clear HV a9;generalize wr.alloc (.cells ([I k,I ln,I c,.string s,I n,.slice N J S]:List Fr).toArray 46)=V0 at *;rintro e V1 ⟨rfl,a5⟩;let ⟨B1,B2,d9,e0⟩:=e7
   have c8:=d9.below a5;have A:=O (EQ (B1.trans (a5.mono B1.size)) (EQ (B2.trans (a5.mono B2.size)) (e0.below a5)));have c4:=c8.cell 4;have c5:=c8.cell 5;simp only[FH,FE]at c4 c5;clear B1 B2 d9 e0 e7 a5 c8 c0 a4;cases p
   .skip;have C:m=false:=by rw[<-g.o.1];simp
    have D:R=false:=by rw[<-g.o.2,C];rfl
    subst D;have G:=A.1;clear g F E A C;go_wp2;go_ret;exact⟨rfl,G⟩
   rcases bq k 6 with k6|k6
   .have f5:(k !=6)=true:=by simpa using k6
    rcases bq J 0 with n1|n1
    .have f6:(0:Int)< (J:Int):=by omega
     have C:m=false:=by rw[<-g.o.1];simp[k6,n1]
     have D:R=false:=by rw[<-g.o.2,C];rfl
     subst D;have G:=A.1;clear g F E A C;go_wp2;go_ret;exact⟨rfl,G⟩
    subst n1;rcases(show 2147483647<n∨n< -2147483647∨(-2147483647<=n/\n<=2147483647) by omega) with g1|g1|⟨g1,g2⟩
    .have g2:¬n<=2147483647:=by omega
     have Y:¬n=0:=by omega
     have C:m=false:=by rw[<-g.o.1];simp[g2,Y]
     have D:R=false:=by rw[<-g.o.2,C];rfl
     subst D;have G:=A.1;clear g F E A C;go_wp2;go_ret;exact⟨rfl,G⟩
    .have g2:¬ -2147483647<=n:=by omega
     have Y:¬n=0:=by omega
     have g4:¬0<=n:=by omega
     have g5:¬2147483647<n:=by omega
     have C:m=false:=by rw[<-g.o.1];simp[g2,Y,g4]
     have D:R=false:=by rw[<-g.o.2,C];rfl
     subst D;have G:=A.1;clear g F E A C;go_wp2;go_ret;exact⟨rfl,G⟩
    have Y:¬n< -2147483647:=by omega
    have g4:¬2147483647<n:=by omega
    rcases bq k 1 with k1|k1
    .have g6:(k !=1)=true:=by simpa using k1
     rcases(show n<0∨0<=n by omega) with j1|j1
     .have j2:¬0<=n:=by omega
      have j3:¬n=0:=by omega
      have C:m=false:=by rw[<-g.o.1];simp[k1,j2,j3]
      have D:R=false:=by rw[<-g.o.2,C];rfl
      subst D;have G:=A.1;clear g F E A C;go_wp2;go_ret;exact⟨rfl,G⟩
     have j2:¬n<0:=by omega
     rcases bq k 2 with k2|k2
     .have f7:(k !=2)=true:=by simpa using k2
      rcases bq k 5 with k5|k5
      .have f9:(k !=5)=true:=by simpa using k5
       rcases bq n 0 with Z|Z
       .have f2:(n !=0)=true:=by simpa using Z
        have C:m=false:=by rw[<-g.o.1];simp[k1,k2,k5,Z,k6]
        have D:R=false:=by rw[<-g.o.2,C];rfl
        subst D;have G:=A.1;clear g F E A C;go_wp2;go_ret;exact⟨rfl,G⟩
       subst Z;have g7:k=3∨k=4:=by omega
       have K:=E V1 A.2.1;go_wp2_with fail;apply K.mono;rintro e V2 ⟨rfl,H⟩;have U:=O (EQ (A.1.trans (H.mono A.1.size)) (A.2.2.below H));obtain rfl:mb=true:=F trivial;have M:m=true:=by rw[<-g.o.1];simp[*]
       have X:Hid (co ah (l.drop (i+1))=R):=O (by rw[<-g.o.2,M];rfl);clear g F E A K H c4 c5 M;go_wp2;go_roundg (Q- (i+1));case measure=>omega
       case rel=>exact⟨i+1,by omega,rfl,congrArg (Gr .i64) (a7),U,X⟩
      .subst k5;have K:=E V1 A.2.1;go_wp2_with fail;apply K.mono;rintro e V2 ⟨rfl,H⟩;have U:=O (EQ (A.1.trans (H.mono A.1.size)) (A.2.2.below H));obtain rfl:mb=true:=F trivial;have M:m=true:=by rw[<-g.o.1];simp[*]
       have X:Hid (co ah (l.drop (i+1))=R):=O (by rw[<-g.o.2,M];rfl);clear g F E A K H c4 c5 M;go_wp2;go_roundg (Q- (i+1));case measure=>omega
       case rel=>exact⟨i+1,by omega,rfl,congrArg (Gr .i64) (a7),U,X⟩
     .subst k2;have K:=E V1 A.2.1;go_wp2_with fail;apply K.mono;rintro e V2 ⟨rfl,H⟩;have U:=O (EQ (A.1.trans (H.mono A.1.size)) (A.2.2.below H));obtain rfl:mb=true:=F trivial;have M:m=true:=by rw[<-g.o.1];simp[*]
      have X:Hid (co ah (l.drop (i+1))=R):=O (by rw[<-g.o.2,M];rfl);clear g F E A K H c4 c5 M;go_wp2;go_roundg (Q- (i+1));case measure=>omega
      case rel=>exact⟨i+1,by omega,rfl,congrArg (Gr .i64) (a7),U,X⟩
    .subst k1;have K:=E V1 A.2.1;go_wp2_with fail;apply K.mono;rintro e V2 ⟨rfl,H⟩;have U:=O (EQ (A.1.trans (H.mono A.1.size)) (A.2.2.below H));obtain rfl:mb=true:=F trivial;have M:m=true:=by rw[<-g.o.1];simp[*]
     have X:Hid (co ah (l.drop (i+1))=R):=O (by rw[<-g.o.2,M];rfl);clear g F E A K H c4 c5 M;go_wp2;go_roundg (Q- (i+1));case measure=>omega
     case rel=>exact⟨i+1,by omega,rfl,congrArg (Gr .i64) (a7),U,X⟩
   .subst k6;rcases(show 2147483647<n∨n< -2147483647∨(-2147483647<=n/\n<=2147483647) by omega) with g1|g1|⟨g1,g2⟩
    .have Y:¬n=0:=by omega
     have C:m=false:=by rw[<-g.o.1];simp[Y]
     have D:R=false:=by rw[<-g.o.2,C];rfl
     subst D;have G:=A.1;clear g F E A C;go_wp2;go_ret;exact⟨rfl,G⟩
    .have Y:¬n=0:=by omega
     have g5:¬2147483647<n:=by omega
     have C:m=false:=by rw[<-g.o.1];simp[Y]
     have D:R=false:=by rw[<-g.o.2,C];rfl
     subst D;have G:=A.1;clear g F E A C;go_wp2;go_ret;exact⟨rfl,G⟩
    have Y:¬n< -2147483647:=by omega
    have g4:¬2147483647<n:=by omega
    rcases(show n<0∨0<=n by omega) with j1|j1
    .have j3:¬n=0:=by omega
     have C:m=false:=by rw[<-g.o.1];simp[j3]
     have D:R=false:=by rw[<-g.o.2,C];rfl
     subst D;have G:=A.1;clear g F E A C;go_wp2;go_ret;exact⟨rfl,G⟩
    have j2:¬n<0:=by omega
    rcases bq n 0 with Z|Z
    .have f2:(n !=0)=true:=by simpa using Z
     have C:m=false:=by rw[<-g.o.1];simp[Z]
     have D:R=false:=by rw[<-g.o.2,C];rfl
     subst D;have G:=A.1;clear g F E A C;go_wp2;go_ret;exact⟨rfl,G⟩
    subst Z;have K:=E V1 A.2.1;go_wp2_with fail;apply K.mono;rintro e V2 ⟨rfl,H⟩;have U:=O (EQ (A.1.trans (H.mono A.1.size)) (A.2.2.below H));cases mb
    .have C:m=false:=by rw[<-g.o.1];simp
     have D:R=false:=by rw[<-g.o.2,C];rfl
     subst D;have G:=U.1;clear g F E A U K H c4 c5;go_wp2;go_ret;exact⟨rfl,G⟩
    have M:m=true:=by rw[<-g.o.1];simp
    have X:Hid (co ah (l.drop (i+1))=R):=O (by rw[<-g.o.2,M];rfl);clear g F E A K H c4 c5 M;go_wp2;go_roundg (Q- (i+1));case measure=>omega
    case rel=>exact⟨i+1,by omega,rfl,congrArg (Gr .i64) (a7),U,X⟩
  .obtain rfl:i=Q:=by omega
   have f4:¬ (i:Int)< (i:Int):=by omega
   have e9:R=true:=by rw[<-HR.o,Gw (by rw[HN.o];exact FL _)];rfl
   subst e9;have a2:=V.1;clear V;go_wp2;go_ret;exact⟨rfl,a2⟩
end Go.Proofs.YtgppcdfgdaggjaaGreatDoor
