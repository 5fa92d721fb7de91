/- Texts laid together. No condition but what each law says. -/
import Derived.Test.YtgppcdfgdaggjaaGreatDoorN22
set_option maxRecDepth 100000
set_option maxHeartbeats 32000000
namespace Go.Proofs.YtgppcdfgdaggjaaGreatDoor
open Go.RowKit Go.Maps Go.Proofs.Tryz
open Go renaming Value→Fr,World→Fk,bodyPost→Gb,Calls→Jq
open Go.RowKit.Below renaming refl→FB
open Nat renaming zero_le→FX,le_refl→FL,le_trans→FU,le_succ→Hd,lt_of_lt_of_le→FJ
open Go.Value renaming int→Gr
open Go.Act renaming put→Gf
open And renaming intro→EQ
open Go.RowKit renaming Below→FM
open List renaming mem_cons→FQ,not_mem_nil→FO,getElem?_cons_succ→FH,getElem?_cons_zero→FE,length_append→Gk,mem_append→GG,mem_singleton→Hq,length_cons→FV,length_nil→Gg,size_toArray→Hh
variable {W w:Fk}{u0 u1 u2 u3 u4 v v0 v1 v2 v3 v4 v5 v6 v7 v8 v9:Fr}{a a0 a1:Option Addr}{g j m n0 n5 n6:Nat}{l2 l3:List Fr}
theorem iH:(prog.info? 28).map (·.size)=some 5:=by kernel_rfl
theorem wb:∃d,prog.underlying 28=some d/\d.isRow=true:=by
 have h:(prog.underlying 28).map (·.isRow)=some true:=by kernel_rfl
 let ⟨d,g,j⟩:=Option.map_eq_some_iff.1 h
 exact⟨d,g,j⟩
theorem zt:∃i z,prog.info? 28=some i/\i.zero=some z/\z.cells=(List.replicate 5 (.slice none 0 0):List Fr).toArray:=fH (by kernel_rfl)
theorem pu.at{ok:Nat->Prop}{P:Pg}{n1 n2 n3 n4:Fr}(h:pu ok w P v0 v1 v2 v3 v4 n1 n2 n3 n4)(g:bL w W):pu (fun _=>True) W P v0 v1 v2 v3 v4 n1 n2 n3 n4:=(h.keep fun b o u _ j=>ai g b o u j).CQ fun _ _=>trivial
theorem fy{g:Type}{E:El g}{ok:Nat->Prop}{l:List g}(h:Ro E ok w v l):v.oneCell'=true:=by obtain⟨a,cap,rfl,-⟩:=h;rfl
theorem lG{Q Q0:Nat->Prop}{P:Pg}{n1 n2 n3 n4:Fr}{z:Nat}(d5:prog.follows .mixedOrders=true)(HN:Hid (P.threads.length=j))(b8:Hid (True->aF j g))(Z:Hid (pu Q w P v8 v9 u0 (.slice a0 j g) v0 n1 n2 n3 n4))(G2:Hid (pu Q0 w P u1 v6 v7 (.slice a1 j n0) v1 v2 v3 v4 v5))(A:Hid (bL w W/\(ak W z 30 (fU P v8 v9 u0 (.slice a0 j g) v0 n1 n2 n3 n4 [])/\ak W (z+1) 30 (fU P u1 v6 v7 (.slice a1 j n0) v1 v2 v3 v4 v5 []))/\ak W n5 28 [v0,n1,n2,n3,n4]/\ak W n6 28 [v1,v2,v3,v4,v5]))(hU:l2.length=153:=by rfl):
  Code.wp prog (Jp 3 (f12.body.getD .skip)) (Gb prog f12 (sk w)) ⟨(u2::u3::Pt z::Pt (z+1)::u4::Pt n5::Pt n6::l2).toArray,[]⟩ W:=by
 revert l2;apply aN;iterate 153 intro _
 change Code.wp _ _ _ _ _;conv in (Jp _ _)=>whnf
 refine wk fun KK a3=>?_;have p0:W.cell? (ad n5 0)=some (v0):=A.2.2.1.cell 0;have q0:W.cell? (ad n6 0)=some (v1):=A.2.2.2.cell 0;go_wp2_with fail;apply (fJ P.nv (Z.at A.1).nv (G2.at A.1).nv).mono;rintro e V ⟨rfl,C⟩;have J:Hid (bL w V/\(ak V z 30 (fU P v8 v9 u0 (.slice a0 j g) v0 n1 n2 n3 n4 [])/\ak V (z+1) 30 (fU P u1 v6 v7 (.slice a1 j n0) v1 v2 v3 v4 v5 []))/\ak V n5 28 [v0,n1,n2,n3,n4]/\ak V n6 28 [v1,v2,v3,v4,v5]):=O ⟨A.1.trans (C.mono A.1.size),⟨A.2.1.1.below C,A.2.1.2.below C⟩,A.2.2.1.below C,A.2.2.2.below C⟩;clear C A p0 q0;have p1:V.cell? (ad n5 1)=some (n1):=J.2.2.1.cell 1;have q1:V.cell? (ad n6 1)=some (v2):=J.2.2.2.cell 1;go_wp2_with fail
 apply (fJ P.na (Z.at J.1).na (G2.at J.1).na).mono;rintro e X ⟨rfl,C⟩;have K:Hid (bL w X/\(ak X z 30 (fU P v8 v9 u0 (.slice a0 j g) v0 n1 n2 n3 n4 [])/\ak X (z+1) 30 (fU P u1 v6 v7 (.slice a1 j n0) v1 v2 v3 v4 v5 []))/\ak X n5 28 [v0,n1,n2,n3,n4]/\ak X n6 28 [v1,v2,v3,v4,v5]):=O ⟨J.1.trans (C.mono J.1.size),⟨J.2.1.1.below C,J.2.1.2.below C⟩,J.2.2.1.below C,J.2.2.2.below C⟩;clear C J p1 q1;have p2:X.cell? (ad n5 2)=some (n2):=K.2.2.1.cell 2;have q2:X.cell? (ad n6 2)=some (v3):=K.2.2.2.cell 2;go_wp2_with fail;apply (fJ P.nm (Z.at K.1).nm (G2.at K.1).nm).mono;rintro e U ⟨rfl,C⟩
 have G:Hid (bL w U/\(ak U z 30 (fU P v8 v9 u0 (.slice a0 j g) v0 n1 n2 n3 n4 [])/\ak U (z+1) 30 (fU P u1 v6 v7 (.slice a1 j n0) v1 v2 v3 v4 v5 []))/\ak U n5 28 [v0,n1,n2,n3,n4]/\ak U n6 28 [v1,v2,v3,v4,v5]):=O ⟨K.1.trans (C.mono K.1.size),⟨K.2.1.1.below C,K.2.1.2.below C⟩,K.2.2.1.below C,K.2.2.2.below C⟩;clear C K p2 q2;have p3:U.cell? (ad n5 3)=some (n3):=G.2.2.1.cell 3;have q3:U.cell? (ad n6 3)=some (v4):=G.2.2.2.cell 3;go_wp2_with fail;apply (fJ P.nc (Z.at G.1).nc (G2.at G.1).nc).mono;rintro e Y ⟨rfl,C⟩
 have M:Hid (bL w Y/\(ak Y z 30 (fU P v8 v9 u0 (.slice a0 j g) v0 n1 n2 n3 n4 [])/\ak Y (z+1) 30 (fU P u1 v6 v7 (.slice a1 j n0) v1 v2 v3 v4 v5 []))/\ak Y n5 28 [v0,n1,n2,n3,n4]/\ak Y n6 28 [v1,v2,v3,v4,v5]):=O ⟨G.1.trans (C.mono G.1.size),⟨G.2.1.1.below C,G.2.1.2.below C⟩,G.2.2.1.below C,G.2.2.2.below C⟩;clear C G p3 q3;have p4:Y.cell? (ad n5 4)=some (n4):=M.2.2.1.cell 4;have q4:Y.cell? (ad n6 4)=some (v5):=M.2.2.2.cell 4;go_wp2_with fail;apply (fJ P.nh (Z.at M.1).nh (G2.at M.1).nh).mono;rintro e N ⟨rfl,C⟩
 have a5:Hid (bL w N/\(ak N z 30 (fU P v8 v9 u0 (.slice a0 j g) v0 n1 n2 n3 n4 [])/\ak N (z+1) 30 (fU P u1 v6 v7 (.slice a1 j n0) v1 v2 v3 v4 v5 []))/\ak N n5 28 [v0,n1,n2,n3,n4]/\ak N n6 28 [v1,v2,v3,v4,v5]):=O ⟨M.1.trans (C.mono M.1.size),⟨M.2.1.1.below C,M.2.1.2.below C⟩,M.2.2.1.below C,M.2.2.2.below C⟩;clear C M p4 q4;go_wp2;apply a3;clear a3 KK;have R:Hid (bL w N/\ak N z 30 (fU P v8 v9 u0 (.slice a0 j g) v0 n1 n2 n3 n4 [])/\ak N (z+1) 30 (fU P u1 v6 v7 (.slice a1 j n0) v1 v2 v3 v4 v5 [])):=O ⟨a5.1,a5.2.1.1,a5.2.1.2⟩;clear a5;refine wk fun KK a3=>?_;go_wp2
 go_loopg [7] j (fun x iv wr=>∃i:Nat,i<=j/\x=j-i/\iv=I i/\Hid (bL w wr/\ak wr z 30 (fU P v8 v9 u0 (.slice a0 j g) v0 n1 n2 n3 n4 [])/\ak wr (z+1) 30 (fU P u1 v6 v7 (.slice a1 j n0) v1 v2 v3 v4 v5 [])));case atStart=>exact⟨0,FX _,rfl,rfl,R⟩
 case round=>
  clear R;obtain⟨i,hi,rfl,rfl,R⟩:=hrel;have p5:wr.cell? (ad z 5)=some (.slice a0 j g):=R.2.1.cell 5;by_cases d3:i<j
  .have e4:(i:Int)< (j:Int):=by omega
   have e5:(0:Int)<=(i:Int):=by omega
   have d8:Hid (wrap64 ((i:Int)+1)=((i+1:Nat):Int)):=O (by have h1:=(b8 trivial).1;have h2:=(b8 trivial).2;have:=IntWalk.wrap64_in ((i:Int)+1) (by omega);rw[this];omega)
   obtain⟨x,hx⟩:∃x,P.threads[i]? =some x:=⟨_,List.getElem?_eq_getElem (by rw[HN.o];exact d3)⟩;obtain⟨F,hV⟩:=eX wr.drew;have H:Hid (bL w F/\ak F z 30 (fU P v8 v9 u0 (.slice a0 j g) v0 n1 n2 n3 n4 [])/\ak F (z+1) 30 (fU P u1 v6 v7 (.slice a1 j n0) v1 v2 v3 v4 v5 [])):=O (by rw[<-hV];exact⟨R.1.trans (FB _ _).drew,R.2.1.drew,R.2.2.drew⟩);obtain⟨t1,d1,c9,-,b5⟩:=(Z.at H.1).threads;obtain⟨t2,d2,a9,-,c8⟩:=(G2.at H.1).threads;obtain⟨b1,o1,e0,rfl,-,a4,d6⟩:=b5 i x hx;obtain⟨b2,o2,e3,rfl,-,a2,d4⟩:=c8 i x hx;obtain⟨x1,y1,rfl,b9,d0⟩:=d6;obtain⟨x2,y2,rfl,d9,b4⟩:=d4;simp only[Value.slice.injEq]at c9 a9;obtain⟨rfl,-,-⟩:=c9;obtain⟨rfl,-,-⟩:=a9;let ⟨BN,a7⟩:=eX (x.body.length)
   have S:Hid ((F.cell? (ad b1 (o1+i*3))=some (.string x.name)/\F.cell? (ad b1 (o1+i*3+1))=some (I x.locals)/\F.cell? (ad b1 (o1+i*3+2))=some (.slice x1 BN y1))/\F.cell? (ad b2 (o2+i*3))=some (.string x.name)/\F.cell? (ad b2 (o2+i*3+1))=some (I x.locals)/\F.cell? (ad b2 (o2+i*3+2))=some (.slice x2 BN y2)):=O (by rw[<-a7];exact⟨⟨a4 0 _ rfl,a4 1 _ rfl,a4 2 _ rfl⟩,a2 0 _ rfl,a2 1 _ rfl,a2 2 _ rfl⟩)
   have a6:=wV x.body x1 x2 y1 y2 F b9 d0 b4;rw[a7]at a6;have b7:=O a6;let ⟨e2,a8⟩:=eX (x.name)
   obtain⟨lc,b6⟩:=eX ((x.locals:Int));rw[a8,b6]at S;clear b5 c8 a4 a2 b9 d9 d0 b4 a6 hx a7 a8 b6 x;go_wp2;apply al [] (fun W'=>bL F W') d5;rw[hV];clear hV R p5;have e7:Hid (bL F F):=O (FB _ _);apply fa 0;refine fK (fun D=>D.cell? (ad z 5)=some (.slice (some (ad b1 o1)) j g)) 1 (fun D E=> (H.2.1.below E).cell 5) ?_;apply nk 2;refine nm ?_;apply fa 4;apply fK _ 5 (fun D E=>ai E _ _ _ S.1.1);apply fa 6;refine fK (fun D=>D.cell? (ad (z+1) 5)=some (.slice (some (ad b2 o2)) j n0)) 7 (fun D E=> (H.2.2.below E).cell 5) ?_;refine nm ?_;apply ke 8;apply fK _ 11 (fun D E=>ai E _ _ _ S.2.1);refine nm ?_;apply ke 12
   refine fK (fun D=>D.cell? (ad z 5)=some (.slice (some (ad b1 o1)) j g)) 15 (fun D E=> (H.2.1.below E).cell 5) ?_;refine nm ?_;apply ke 16;apply fK _ 19 (fun D E=>ai E _ _ _ S.1.2.1);refine nm ?_;apply fa 20;refine fK (fun D=>D.cell? (ad (z+1) 5)=some (.slice (some (ad b2 o2)) j n0)) 21 (fun D E=> (H.2.2.below E).cell 5) ?_;apply nk 22;refine nm ?_;apply fa 24;apply fK _ 25 (fun D E=>ai E _ _ _ S.2.2.1);apply nk 26;refine nm ?_;apply nk 28;refine fK (fun D=>D.cell? (ad z 5)=some (.slice (some (ad b1 o1)) j g)) 30 (fun D E=> (H.2.1.below E).cell 5) ?_;apply fa 31;refine nm ?_;apply nk 32;apply fK _ 34 (fun D E=>ai E _ _ _ S.1.2.2);apply fa 35;refine nm ?_
   refine fK (fun D=>D.cell? (ad (z+1) 5)=some (.slice (some (ad b2 o2)) j n0)) 36 (fun D E=> (H.2.2.below E).cell 5) ?_;apply ke 37;refine nm ?_;apply fK _ 40 (fun D E=>ai E _ _ _ S.2.2.2);refine nm ?_;refine jT 41 (by kernel_rfl) rfl (fun d7 hK=>?_);rw[aD (by rfl)];go_simp;apply b7.mono;rintro e W3 ⟨rfl,C⟩;have e6:=O C;apply hK _ _ (fun _=>e6);clear hK d7 C;try refine nm ?_
   apply nk 42;refine nm ?_;refine dn ?_;have G:Hid (bL w W3/\ak W3 z 30 (fU P v8 v9 u0 (.slice (some (ad b1 o1)) j g) v0 n1 n2 n3 n4 [])/\ak W3 (z+1) 30 (fU P u1 v6 v7 (.slice (some (ad b2 o2)) j n0) v1 v2 v3 v4 v5 [])):=O ⟨H.1.trans (e6.mono H.1.size),H.2.1.below e6,H.2.2.below e6⟩;clear e7 e6 H b7 S;go_wp2;go_roundg (j- (i+1));case measure=>omega
   case rel=>exact⟨i+1,by omega,rfl,congrArg (Gr .i64) d8,G⟩
  .obtain rfl:i=j:=by omega
   have e1:¬ (i:Int)< (i:Int):=by omega
   go_wp2;apply a3;go_wp2;go_ret;exact⟨rfl,R.1⟩
theorem np{Q Q0:Nat->Prop}(P:Pg)(h1:ei Q w P l2)(h2:ei Q0 w P l3):Jq prog 12 #[.agg l2.toArray,.agg l3.toArray] w (sk w):=by
 let ⟨h7,i1,b4,b8,b5⟩:=zt
 let ⟨d3,e6,d6⟩:=wb
 have d0:prog.follows .mixedOrders=true:=by kernel_rfl
 let ⟨v0,v1,v4,v5,K,n1,n2,n3,n4,d1,g1⟩:=h1
 let ⟨a2,a5,a4,i2,N,H,G,J,M,d2,g2⟩:=h2
 obtain⟨a6,a8,f3,c9,-⟩:=id g1.threads;obtain⟨a1,a3,e9,-,-⟩:=id g2.threads;subst f3 e9;obtain⟨E,hN⟩:=eX P.threads.length;rw[hN]at d1 d2 g1 g2 c9;have HN:=O hN;have e3:=O fun _:True=>c9;have X:=O g1;have Y:=O g2;have HP:=O (EQ d1 d2);clear d1 d2 g1 g2 hN c9;go_enter func12,ntmps12;refine wk fun KK i4=>?_;go_wp2_with (first
  | (with_reducible refine cp 2 (.box 30 _) ?_;refine aJ rfl (.tmp 0) rfl l2 rfl w.1.size rfl ?_;intro W1 k1 b1 e2;have K1:=O k1;have B1:=O b1;clear k1 b1)
  | (with_reducible refine cp 3 (.box 30 _) ?_;refine aJ rfl (.tmp 1) rfl l3 rfl (w.1.size+1) e2 ?_;intro W2 k2 b2 s2;have K2:=O k2;have B2:=O b2;clear k2 b2)
 )
 apply i4;clear i4 KK;obtain⟨z,hz⟩:=eX w.1.size;rw[hz]at K1 K2;rw[hz];have HZ:=O hz;have HQ:Hid (FM w.1.size w W2/\ak W2 z 30 (fU P v0 v1 v4 (.slice a6 E a8) K n1 n2 n3 n4 [])/\ak W2 (z+1) 30 (fU P a2 a5 a4 (.slice a1 E a3) N H G J M [])):=O (by rw[<-HP.o.1,<-HP.o.2];have f2:=B1.trans (B2.mono (by have:=B1.size;omega));exact⟨f2,K1.below B2,K2⟩)
 clear K1 K2 B1 B2 e2 s2 hz;refine wk fun KK i4=>?_;have p0:W2.cell? (ad z 0)=some (v0):=HQ.2.1.cell 0;have q0:W2.cell? (ad (z+1) 0)=some (a2):=HQ.2.2.cell 0;go_wp2_with fail;apply (rF P.vars (X.at HQ.1).vars (Y.at HQ.1).vars).mono;rintro e U1 ⟨rfl,g⟩;have a7:Hid (FM w.1.size w U1/\ak U1 z 30 (fU P v0 v1 v4 (.slice a6 E a8) K n1 n2 n3 n4 [])/\ak U1 (z+1) 30 (fU P a2 a5 a4 (.slice a1 E a3) N H G J M [])):=O ⟨HQ.1.trans (g.mono HQ.1.size),HQ.2.1.below g,HQ.2.2.below g⟩;clear g HQ p0 q0;have p1:U1.cell? (ad z 1)=some (v1):=a7.2.1.cell 1;have q1:U1.cell? (ad (z+1) 1)=some (a5):=a7.2.2.cell 1;go_wp2_with fail;apply (lt P.CW (X.at a7.1).CW (Y.at a7.1).CW).mono;rintro e U2 ⟨rfl,g⟩
 have V:Hid (FM w.1.size w U2/\ak U2 z 30 (fU P v0 v1 v4 (.slice a6 E a8) K n1 n2 n3 n4 [])/\ak U2 (z+1) 30 (fU P a2 a5 a4 (.slice a1 E a3) N H G J M [])):=O ⟨a7.1.trans (g.mono a7.1.size),a7.2.1.below g,a7.2.2.below g⟩;clear g a7 p1 q1;have p2:U2.cell? (ad z 2)=some (I P.CT):=V.2.1.cell 2;have q2:U2.cell? (ad (z+1) 2)=some (I P.CT):=V.2.2.cell 2;have p3:U2.cell? (ad z 3)=some (I P.conds):=V.2.1.cell 3;have q3:U2.cell? (ad (z+1) 3)=some (I P.conds):=V.2.2.cell 3;have p4:U2.cell? (ad z 4)=some (v4):=V.2.1.cell 4;have q4:U2.cell? (ad (z+1) 4)=some (a4):=V.2.2.cell 4;go_wp2_with fail;apply (lt P.CX (X.at V.1).CX (Y.at V.1).CX).mono;rintro e U3 ⟨rfl,g⟩
 have a0:Hid (FM w.1.size w U3/\ak U3 z 30 (fU P v0 v1 v4 (.slice a6 E a8) K n1 n2 n3 n4 [])/\ak U3 (z+1) 30 (fU P a2 a5 a4 (.slice a1 E a3) N H G J M [])):=O ⟨V.1.trans (g.mono V.1.size),V.2.1.below g,V.2.2.below g⟩;clear g V p2 p3 p4 q2 q3 q4;have p5:U3.cell? (ad z 5)=some (.slice a6 E a8):=a0.2.1.cell 5;have q5:U3.cell? (ad (z+1) 5)=some (.slice a1 E a3):=a0.2.2.cell 5;have p6:U3.cell? (ad z 6)=some (I P.main):=a0.2.1.cell 6;have q6:U3.cell? (ad (z+1) 6)=some (I P.main):=a0.2.2.cell 6;have p7:U3.cell? (ad z 7)=some (I P.stmts):=a0.2.1.cell 7;have q7:U3.cell? (ad (z+1) 7)=some (I P.stmts):=a0.2.2.cell 7;go_wp2;apply i4;clear i4 KK p5 p6 p7 q5 q6 q7;refine wk fun KK i4=>?_
 obtain⟨F,hV⟩:=eX U3.drew;have i5:Hid (FM w.1.size w F/\ak F z 30 (fU P v0 v1 v4 (.slice a6 E a8) K n1 n2 n3 n4 [])/\ak F (z+1) 30 (fU P a2 a5 a4 (.slice a1 E a3) N H G J M [])):=O (by rw[<-hV];exact⟨a0.1.trans (FB _ _).drew,a0.2.1.drew,a0.2.2.drew⟩);have d9:Hid ([K,n1,n2,n3,n4].length=5/\∀v∈ [K,n1,n2,n3,n4],v.oneCell'=true):=O ⟨rfl,fun v hv=>by
  simp only[FQ,FO,or_false]at hv;rcases hv with h|h|h|h|h
  .rw[h];exact fy X.nv
  .rw[h];exact fy X.na
  .rw[h];exact fy X.nm
  .rw[h];exact fy X.nc
  .rw[h];exact fy X.nh⟩
 have e4:Hid ([N,H,G,J,M].length=5/\∀v∈ [N,H,G,J,M],v.oneCell'=true):=O ⟨rfl,fun v hv=>by
  simp only[FQ,FO,or_false]at hv;rcases hv with h|h|h|h|h
  .rw[h];exact fy Y.nv
  .rw[h];exact fy Y.na
  .rw[h];exact fy Y.nm
  .rw[h];exact fy Y.nc
  .rw[h];exact fy Y.nh⟩
 have d7:Hid (F.rangeAt z 8 [K,n1,n2,n3,n4]/\F.rangeAt (z+1) 8 [N,H,G,J,M]):=O ⟨ak.range (pre:=[v0,v1,I P.CT,I P.conds,v4,.slice a6 E a8,I P.main,I P.stmts]) (mid:=[K,n1,n2,n3,n4]) (post:=[]) i5.2.1 rfl,ak.range (pre:=[a2,a5,I P.CT,I P.conds,a4,.slice a1 E a3,I P.main,I P.stmts]) (mid:=[N,H,G,J,M]) (post:=[]) i5.2.2 rfl⟩;clear a0;go_wp2_with fail;apply al [] (fun W'=>FM F.1.size F W') d0;rw[hV];clear hV;have Z:Hid (FM F.1.size F F):=O (FB _ _);refine fa 0 ?_;refine tl 1 68 Z 28 67 z 8 [K,n1,n2,n3,n4] d3 (fun W hS=>fun j u hu=>ai hS _ _ _ (d7.1 j u hu)) e6 d6 iH ?_;refine fa 2 ?_;refine tl 3 70 Z 28 69 (z+1) 8 [N,H,G,J,M] d3 (fun W hS=>fun j u hu=>ai hS _ _ _ (d7.2 j u hu)) e6 d6 iH ?_
 refine nm ?_;refine cj [4,5] (by kernel_rfl) ?_ (by decide);intro i hi;simp only[FQ,FO,or_false]at hi;rcases hi with rfl|rfl
 .refine⟨_,rfl,rfl,fun C D=>?_⟩;obtain⟨S,f8⟩:=eX F.1.size;refine aw b4 b8 b5 rfl S f8 ?_;intro X1 A g h8;have b9:=O (Z.trans (g.mono Z.size));have g7:=O A;have e8:Hid (F.1.size<=S/\S<X1.1.size):=O ⟨by have:=Z.size;omega,A.lt⟩;change C (Gf _ (some 5) _) X1;apply D _ _ (fun _=>b9);clear D C A g;refine nm ?_;refine oD 5 fun C D=>?_;obtain⟨U,f4⟩:=eX X1.1.size;refine aw b4 b8 b5 rfl U f4 ?_;intro X2 A g i0;have e1:=O (b9.trans (g.mono b9.size));have f5:=O A;have g8:Hid (F.1.size<=U/\U<X2.1.size):=O ⟨by have:=b9.size;omega,A.lt⟩;have f0:=O (g7.below g);have e0:Hid (S≠U):=O (by have h1:=e8.2;omega);change C (Gf _ (some 6) _) X2;apply D _ _ (fun _=>e1);clear D C A g;refine nm ?_;refine oD 6 fun C D=>?_
  refine an iH (.tmp 5) (.tmp 68) rfl S [K,n1,n2,n3,n4] _ rfl rfl f0 rfl d9 ?_;intro X3 A R;have d5:=O (R.below e8.1 e1);have g6:=O A;have h3:=O (R.CV (by have:=e0.o;omega) f5);change C (Gf _ none _) X3;apply D _ _ (fun _=>d5);clear D C A R;refine oD 7 fun C D=>?_;refine an iH (.tmp 6) (.tmp 70) rfl U [N,H,G,J,M] _ rfl rfl h3 rfl e4 ?_;intro X4 A R;have a9:=O (R.below g8.1 d5);have g9:=O A;have h6:=O (R.CV (by have:=e0.o;omega) g6);change C (Gf _ none _) X4;apply D _ _ (fun _=>a9);clear D C A R;try simp only[Gf]
  refine dn ?_;have c8:Hid (FM w.1.size w X4/\(ak X4 z 30 (fU P v0 v1 v4 (.slice a6 E a8) K n1 n2 n3 n4 [])/\ak X4 (z+1) 30 (fU P a2 a5 a4 (.slice a1 E a3) N H G J M []))/\ak X4 S 28 [K,n1,n2,n3,n4]/\ak X4 U 28 [N,H,G,J,M]):=O ⟨i5.1.trans (a9.mono i5.1.size),⟨i5.2.1.below a9,i5.2.2.below a9⟩,h6,g9⟩;go_wp2;apply i4;clear i4 KK;exact lG d0 HN e3 X Y c8
 .refine⟨_,rfl,rfl,fun C D=>?_⟩;obtain⟨U,h5⟩:=eX F.1.size;refine aw b4 b8 b5 rfl U h5 ?_;intro X5 A g h9;have b7:=O (Z.trans (g.mono Z.size));have f6:=O A;have d8:Hid (F.1.size<=U/\U<X5.1.size):=O ⟨by have:=Z.size;omega,A.lt⟩;change C (Gf _ (some 6) _) X5;apply D _ _ (fun _=>b7);clear D C A g;refine nm ?_;refine oD 4 fun C D=>?_;obtain⟨S,f7⟩:=eX X5.1.size;refine aw b4 b8 b5 rfl S f7 ?_;intro X6 A g i3;have e5:=O (b7.trans (g.mono b7.size));have h0:=O A;have g4:Hid (F.1.size<=S/\S<X6.1.size):=O ⟨by have:=b7.size;omega,A.lt⟩;have f9:=O (f6.below g);have e7:Hid (S≠U):=O (by have h1:=d8.2;omega);change C (Gf _ (some 5) _) X6;apply D _ _ (fun _=>e5);clear D C A g;refine nm ?_;refine oD 6 fun C D=>?_
  refine an iH (.tmp 5) (.tmp 68) rfl S [K,n1,n2,n3,n4] _ rfl rfl h0 rfl d9 ?_;intro X7 A R;have d4:=O (R.below g4.1 e5);have g5:=O A;have f1:=O (R.CV (by have:=e7.o;omega) f9);change C (Gf _ none _) X7;apply D _ _ (fun _=>d4);clear D C A R;refine oD 7 fun C D=>?_;refine an iH (.tmp 6) (.tmp 70) rfl U [N,H,G,J,M] _ rfl rfl f1 rfl e4 ?_;intro X8 A R;have b6:=O (R.below d8.1 d4);have h4:=O A;have g3:=O (R.CV (by have:=e7.o;omega) g5);change C (Gf _ none _) X8;apply D _ _ (fun _=>b6);clear D C A R;try simp only[Gf]
  refine dn ?_;have c8:Hid (FM w.1.size w X8/\(ak X8 z 30 (fU P v0 v1 v4 (.slice a6 E a8) K n1 n2 n3 n4 [])/\ak X8 (z+1) 30 (fU P a2 a5 a4 (.slice a1 E a3) N H G J M []))/\ak X8 S 28 [K,n1,n2,n3,n4]/\ak X8 U 28 [N,H,G,J,M]):=O ⟨i5.1.trans (b6.mono i5.1.size),⟨i5.2.1.below b6,i5.2.2.below b6⟩,g3,h4⟩;go_wp2;apply i4;clear i4 KK;exact lG d0 HN e3 X Y c8
structure Wn (w:Fk):Prop where
 o:hR w
 h:oA w
 e:gc w
theorem Wn.below{w':Fk}(h:Wn w)(g:bL w w'):Wn w':=⟨h.o.below g,h.h.below g,h.e.below g h.e.1⟩
theorem ja(s:ByteArray)(w:Fk)(H:Wn w):Jq prog 10 #[.string s] w (lh w (eC pQ s)):=
 qU ah s w H.e H.o fun W a cap j g hd=>lP _ a cap W g (H.below j).h hd (jH (et s))
theorem eh(w:Fk)(H:Wn w):Jq prog 9 #[] w (sk w):=by
 obtain⟨e4,e5,d3,d1,d2⟩:=hJ;obtain⟨e3,e1,a9,b5,b6⟩:=hG;have HW:=O H;clear H;have a7:=ja AY w HW.o;rw[BI]at a7;go_enter func9,ntmps9;refine wk fun Y D=>?_;go_wp2_with fail;refine D.o _ _ ?_;clear D Y;refine wk fun Y D=>?_;go_wp2_with fail;refine a7.mono ?_;clear a7;rintro e W1 ⟨⟨F,rfl,M⟩,J⟩;have a8:=O J;have b4:=O M;have d9:=O M.cells;clear J M;obtain⟨b1,c9⟩:∃b,W1.1.size=b:=⟨_,z⟩;go_wp2_with (first
  | ((with_reducible refine cp 1 (.alloc 30) ?_);refine ag d3 d1 d2 z z b1 c9 ?_;intro W2 U b2 s2;have X:=O U;have G:=O b2;clear U b2)
  | ((with_reducible refine cp 2 (.alloc 32) ?_);refine ag a9 b5 b6 z z (b1+1) s2 ?_;intro W3 k3 b3 s3;have Z:=O k3;have K:=O b3;clear k3 b3)
  | ((with_reducible refine cY (.store 30 (.tmp 1) _) ?_);refine af bN z (.tmp 1) (.tmp 9) z b1 F _ z z (X.o.below K.o) z d9.o ?_;intro W4 k4 c4;have C:=O (EQ k4 c4);clear k4 c4)
  | ((with_reducible refine cY (.store 32 (.tmp 2) _) ?_);refine af br z (.tmp 2) (.tmp 10) z (b1+1) [.int .i64 (cW mZ).2.1.1,.int .i64 (cW mZ).2.1.2] _ z z (C.o.2.CV (by omega) Z.o) z (cl _ _) ?_;intro W k5 c5;have E:=O (EQ k5 c5);clear k5 c5)
  |fail)
 refine D.o _ _ ?_;clear D Y;have a3:Hid (FM W1.1.size W1 W):=O (E.o.2.below (by omega) (C.o.2.below (by omega) (G.o.trans (K.o.mono G.o.size))));have N:Hid (FM w.1.size w W/\ak W b1 30 F/\ei (fun _=>True) W (cW mZ).1 F):=O ⟨a8.o.trans (a3.o.mono a8.o.size),E.o.2.CV (by omega) C.o.1,(b4.o.keep fun b o u _ S=>ai a3.o b o u S).CQ fun _ _=>trivial⟩;clear X G Z K C E a3 b4 a8 s2 s3 c9;have a4:=ja AW W (HW.o.below N.o.1);rw[BH]at a4;refine wk fun Y D=>?_;go_wp2_with fail;refine a4.mono ?_;clear a4;rintro e R ⟨⟨d7,rfl,M⟩,J⟩;have V:Hid (FM w.1.size w R/\ak R b1 30 F/\ei (fun _=>True) R (cW mZ).1 F):=O ⟨N.o.1.trans (J.mono N.o.1.size),N.o.2.1.below J,N.o.2.2.keep fun b o u _ S=>ai J b o u S⟩
 have d6:=O M.cells;clear J M N;obtain⟨b2,d0⟩:∃b,R.1.size=b:=⟨_,z⟩;go_wp2_with (first
  | ((with_reducible refine cp 4 (.alloc 30) ?_);refine ag d3 d1 d2 z z b2 d0 ?_;intro W7 U b2 s2;have X:=O U;have G:=O b2;clear U b2)
  | ((with_reducible refine cp 5 (.alloc 32) ?_);refine ag a9 b5 b6 z z (b2+1) s2 ?_;intro W8 k3 b3 s3;have Z:=O k3;have K:=O b3;clear k3 b3)
  | ((with_reducible refine cY (.store 30 (.tmp 4) _) ?_);refine af bN z (.tmp 4) (.tmp 14) z b2 d7 _ z z (X.o.below K.o) z d6.o ?_;intro W9 k4 c4;have C:=O (EQ k4 c4);clear k4 c4)
  | ((with_reducible refine cY (.store 32 (.tmp 5) _) ?_);refine af br z (.tmp 5) (.tmp 15) z (b2+1) [.int .i64 1,.int .i64 15] _ z z (C.o.2.CV (by omega) Z.o) z (cl _ _) ?_;intro A k5 c5;have E:=O (EQ k5 c5);clear k5 c5)
  |fail)
 refine D.o _ _ ?_;clear D Y;have a1:Hid (FM R.1.size R A):=O (E.o.2.below (by omega) (C.o.2.below (by omega) (G.o.trans (K.o.mono G.o.size))));have Q:Hid (FM w.1.size w A/\ak A b1 30 F/\ei (fun _=>True) A (cW mZ).1 F):=O ⟨V.o.1.trans (a1.o.mono V.o.1.size),V.o.2.1.below a1.o,V.o.2.2.keep fun b o u _ S=>ai a1.o b o u S⟩;have HQ:=O E.o.1;clear X G Z K C E a1 V s2 s3 d0;obtain⟨v0,v1,v4,v5,n0,n1,n2,n3,n4,a2,a6⟩:=Q.o.2.2;obtain⟨a0,c0,b8,-,-⟩:=id a6.vars;obtain⟨a5,c5,b9,-,c8⟩:=id a6.threads;have d5:∃t,(cW mZ).1.threads[0]? =some t/\t.locals=1:=by
  have j:=ua.2.2.2;cases hq:(cW mZ).1.threads with
  |nil=>rw[hq]at j;cases j
  |cons t r=> rw[hq]at j;simp only[List.map_cons,List.cons.injEq]at j;exact⟨t,z,j.1⟩
 have b7:(cW mZ).1.threads.length=1:=by have j:=congrArg List.length ua.2.2.2;simpa using j
 obtain⟨t,ht,d4⟩:=d5;obtain⟨g,of,cs,rfl,-,hr,d8⟩:=c8 0 t ht;obtain⟨xa,xc,rfl,-,-⟩:=d8;rw[ua.2.2.1]at b8;rw[b7]at b9;subst b8 b9;have p7:A.cell? ⟨b1,7,none⟩=some (.int .i64 3):=(Q.o.2.1.cell 7).trans (by rw[a2];exact congrArg (fun n:Nat=>some (Gr .i64 (n:Int))) ua.2.1);have p0:A.cell? ⟨b1,0,none⟩=some (.slice a0 1 c0):=(Q.o.2.1.cell 0).trans (by rw[a2];rfl);have p5:A.cell? ⟨b1,5,none⟩=some (.slice (some ⟨g,of,none⟩) 1 c5):=(Q.o.2.1.cell 5).trans (by rw[a2];rfl);have e2:A.cell? ⟨g,of+1,none⟩=some (.int .i64 1):=by have j:=hr 1 _ z;rw[d4]at j;simpa using j
 have q0:A.cell? ⟨b2+1,0,none⟩=some (.int .i64 1):=HQ.o.cell 0;have q1:A.cell? ⟨b2+1,1,none⟩=some (.int .i64 15):=HQ.o.cell 1;have e0:(cW mZ).2.2=0:=by rw[ua.1]
 have HE:=O Q.o.1;clear a2 a6 c8 b7 ht d4 hr Q;try simp only[e0]
 go_wp2_with fail;go_ret;exact⟨z,HE.o⟩
theorem za{l:List De}{cap:Nat}(H:Wn W)(g:aF l.length cap)(hd:cQ (fun _=>True) W a l)(C:∀d∈l,d.nb):Jq prog 14 #[.slice a l.length cap] W (lh W (pQ l)):=
 lV (nmf:=ah) l a cap W g hd fun A j=>lP l a cap A g (H.below j).h (hd.keep fun b o u _ w=>ai j b o u w) C
theorem yo{l:List De}{cap:Nat}(j:aF l.length cap)(hd:cQ (fun _=>True) W a l)(C:∀d∈l,d.nb)(D:∀d∈l,St.cls d.body):Jq prog 15 #[.slice a l.length cap] W (lh W (pQ l)):=by
 have h:=lQ ah l a cap W j hd fun A E=>kp l a cap A j (hd.keep fun b o u _ w=>ai E b o u w) C;unfold pQ;split
 .rename_i g;rwa [aD g,nZ g D]at h
 .rename_i g;rwa [am g]at h
def CQ(l:List De):Prop:=∀d∈l,d.nb/\St.cls d.body
theorem CR{l:List De}{cap B:Nat}{d:De}{cs:List Fr}(HW:Hid (Wn w))(HB:Hid (FM w.1.size w W))(X:Hid (l.length=j))(HG:Hid (aL iw B W (.slice a j cap) l))(V:Hid (CQ (l++[d])/\j<=100/\B<=W.1.size/\w.1.size<=B))
  (HM:Hid (ak W m 46 cs/\fS (fun c=>B<=c/\(Value.slice a j cap).ownBlock≠some c) W cs d))(hU:l2.length=165:=by rfl):
  Code.wp prog (Jp 8 (f5.body.getD .skip)) (Gb prog f5 (sk w)) ⟨(v0::v1::v2::v3::v4::v5:: .bool false:: .slice a j cap::v6::v7:: .pointer (some ⟨m,0,none⟩)::l2).toArray,[]⟩ W:=by
 revert l2;apply aN;iterate 165 intro _
 change Code.wp _ _ _ _ _;obtain⟨h6,h8,f1,f9,e7⟩:=hJ;obtain⟨h7,h9,f2,g1,e8⟩:=hG;obtain⟨e3,f7,f3⟩:=eI;obtain⟨g8,h4,h3⟩:=lb;obtain⟨i0,z0,f0,f8,f6,g3,g9⟩:=bJ tz;have d4:Hid (prog.underlying 40=some (.slice 46)):=O (by kernel_rfl);have b5:=O HM.o.2.cells;conv in (Jp _ _)=>whnf
 refine wk fun KK F=>?_;go_wp2_with (first
  | (with_reducible refine gU _ (.load 46 _) ?_;refine aS z 46 (.tmp 10) z m 0 z cs g8 HM.o.1.whole h4 h3 (by rw[b5.o.1];exact eH) ?_)
  | (with_reducible refine cp 138 (.buildSlice 40 1 _) ?_;refine cy z (.tmp 137) z d4.o f0 f8 f6 g3 (by decide) (by decide) (.agg cs.toArray) cs z z b5.o.1 ?_;intro W1 k1 b1 f4;have K1:=O k1;have N:=O b1;have S1:=O fun _:True=>f4;clear k1 b1 f4)
  | (with_reducible refine cp 139 (.call _) ?_
     refine bW iw z (.tmp 136) (.tmp 138) 40 z i0 z0 d4.o f0 f8 f6 g3 (by decide) g9 B W1 (.slice a j cap) l z (HG.o.keep (fun c hc _=>N.o.block c hc) N.o.size) cs d ?_ W.1.size 46 K1.o z (by rw[X.o];exact FU V.o.2.1 (by decide)) (FU V.o.2.2.1 N.o.size) ?_;exact fS.keep (fun c o u _ A=>ai N.o c o u A) HM.o.2;intro g2 e4 W2 hG g _ _;have d8:=O hG;have C:=O g;clear hG g))
 refine F.o _ _ ?_;clear F KK;rw[X.o];have b4:=O (HB.o.trans ((N.o.mono HB.o.size).trans (C.o.mono (FU V.o.2.2.2 (FL _)))));obtain⟨L,hL⟩:∃L,l++[d]=L:=⟨_,z⟩;have a1:L.length=j+1:=by rw[<-hL,Gk,X.o];rfl
 have d3:CQ L:=by rw[<-hL];exact V.o.1
 have a3:=d8.o;rw[X.o,hL]at a3;have d0:cQ (fun _=>True) W2 (some ⟨g2,0,none⟩) L:=cQ.CQ (fun _ _=>trivial) a3.Fa;have a5:aF L.length e4:=by obtain⟨a9,c9,h1,h2⟩:=a3.form;simp only[Value.slice.injEq]at h1;rw[h1.2.2];exact h2
 have a4:∀d∈L,d.nb:=fun d hd=> (d3 d hd).1;have e9:∀d∈L,St.cls d.body:=fun d hd=> (d3 d hd).2;have b6:=O d0;have hf:=za (HW.o.below b4.o) a5 d0 a4;have d1:=fun W' (g:FM W2.1.size W2 W')=>yo (W:=W') a5 (cQ.keep (fun b o u _ A=>ai g b o u A) b6.o) a4 e9;have d2:=fun W' (g:FM W2.1.size W2 W')=>kp L (some ⟨g2,0,none⟩) e4 W' a5 (cQ.keep (fun b o u _ A=>ai g b o u A) b6.o) a4;have a2:∃c:Int,(if co ah L=true then 0 else 2)=c/\(c=0/\(pQ L).2.2≠2∨c=2/\(pQ L).2.2=2):=by
  unfold pQ;by_cases h:co ah L=true
  .rw[aD h,aD h];exact⟨0,z,.inl ⟨z,ec L⟩⟩
  .rw[am h,am h];exact⟨2,z,.inr ⟨z,z⟩⟩
 obtain⟨ck,a2,c8⟩:=a2;obtain⟨b9,hZ⟩:∃b9,pQ L=b9:=⟨_,z⟩;rw[a1,hZ]at hf;rw[hZ]at c8;simp only[a1,hZ]at d1;simp only[a1,a2]at d2;obtain⟨Pr,⟨pl,pc⟩,er⟩:=b9;have d6:=O d1;have d7:=O d2;have g4:=O (show ck=0/\er≠2∨ck=2/\er=2 from c8);clear d1 d2 a2 c8 hZ a5 d0 e9 a4 d3 a1 hL b6 a3 d8 HG HM V b5 X HB N C K1 S1 d4;refine wk fun KK F=>?_;go_wp2_with fail;refine hf.mono ?_;clear hf;rintro e U1 ⟨⟨U,rfl,M⟩,g⟩;have K:=O g;have d9:=O M;have e1:=O M.cells;clear g M;obtain⟨b1,e5⟩:∃b,U1.1.size=b:=⟨_,z⟩;go_wp2_with (first
  | (with_reducible refine cp 13 (.alloc 30) ?_;refine ag f1 f9 e7 z z b1 e5 ?_;intro U2 k2 b2 s2;have Z:=O k2;have C:=O b2;clear k2 b2)
  | (with_reducible refine cp 14 (.alloc 32) ?_;refine ag f2 g1 e8 z z (b1+1) s2 ?_;intro U3 k3 b3 s3;have K3:=O k3;have H:=O b3;clear k3 b3)
  | (with_reducible refine s1 30 13 ?_;refine af bN z (.tmp 13) (.tmp 143) z b1 U _ z z (Z.o.below H.o) z e1.o ?_;intro U4 k4 c4;have D:=O (EQ k4 c4);clear k4 c4)
  | (with_reducible refine s1 32 14 ?_;refine af br z (.tmp 14) (.tmp 144) z (b1+1) [.int .i64 pl,.int .i64 pc] _ z z (D.o.2.CV (by omega) K3.o) z (cl _ _) ?_;intro S k5 c5;have E:=O (EQ k5 c5);clear k5 c5))
 refine F.o _ _ ?_;clear F KK;have b8:Hid (FM U1.1.size U1 S):=O (E.o.2.below (by omega) (D.o.2.below (by omega) (C.o.trans (H.o.mono C.o.size))));have a0:=O (K.o.trans (b8.o.mono K.o.size));have Q:Hid (FM w.1.size w S/\ak S b1 30 U/\ak S (b1+1) 32 [.int .i64 pl,.int .i64 pc]/\ei (fun _=>True) S Pr U):=O ⟨b4.o.trans (a0.o.mono b4.o.size),E.o.2.CV (by omega) D.o.1,E.o.1,(d9.o.keep fun b o u _ A=>ai b8.o b o u A).CQ fun _ _=>trivial⟩;clear Z C K3 H D E b8 d9 K s2 s3 e5;refine wk fun KK F=>?_;go_wp2_with fail;refine(d6.o S a0.o).mono ?_;rintro e U6 ⟨⟨a6,rfl,M⟩,g⟩;have K:=O g;have e0:=O M;have e2:=O M.cells;clear g M;obtain⟨b2,e6⟩:∃b,U6.1.size=b:=⟨_,z⟩;go_wp2_with (first
  | (with_reducible refine cp 16 (.alloc 30) ?_;refine ag f1 f9 e7 z z b2 e6 ?_;intro U7 k2 b2 s2;have Z:=O k2;have C:=O b2;clear k2 b2)
  | (with_reducible refine cp 17 (.alloc 32) ?_;refine ag f2 g1 e8 z z (b2+1) s2 ?_;intro U8 k3 b3 s3;have K3:=O k3;have H:=O b3;clear k3 b3)
  | (with_reducible refine s1 30 16 ?_;refine af bN z (.tmp 16) (.tmp 149) z b2 a6 _ z z (Z.o.below H.o) z e2.o ?_;intro U9 k4 c4;have D:=O (EQ k4 c4);clear k4 c4)
  | (with_reducible refine s1 32 17 ?_;refine af br z (.tmp 17) (.tmp 150) z (b2+1) [.int .i64 pl,.int .i64 pc] _ z z (D.o.2.CV (by omega) K3.o) z (cl _ _) ?_;intro G k5 c5;have E:=O (EQ k5 c5);clear k5 c5))
 refine F.o _ _ ?_;clear F KK;have b7:Hid (FM U6.1.size U6 G):=O (E.o.2.below (by omega) (D.o.2.below (by omega) (C.o.trans (H.o.mono C.o.size))));have R:=O (K.o.trans (b7.o.mono K.o.size));have J:Hid (FM w.1.size w G/\ak G b2 30 a6/\ak G (b2+1) 32 [.int .i64 pl,.int .i64 pc]/\ei (fun _=>True) G Pr a6):=O ⟨Q.o.1.trans (R.o.mono Q.o.1.size),E.o.2.CV (by omega) D.o.1,E.o.1,(e0.o.keep fun b o u _ A=>ai b7.o b o u A).CQ fun _ _=>trivial⟩;have Y:Hid (ak G b1 30 U/\ak G (b1+1) 32 [.int .i64 pl,.int .i64 pc]/\ei (fun _=>True) G Pr U):=O ⟨Q.o.2.1.below R.o,Q.o.2.2.1.below R.o,Q.o.2.2.2.keep fun b o u _ A=>ai R.o b o u A⟩;clear Z C K3 H D E b7 e0 K s2 s3 e6 Q d6;have p0:=Y.o.2.1.cell 0
 have p1:=Y.o.2.1.cell 1;have q0:=J.o.2.2.1.cell 0;have q1:=J.o.2.2.1.cell 1;simp only[FE,FH]at p0 p1 q0 q1;go_wp2_with (first
  | (with_reducible refine l1 161 30 ?_;refine aS z 30 (.tmp 13) z b1 0 z U e3 Y.o.1.whole f7 f3 (by rw[e1.o.1];exact bN) ?_)
  | (with_reducible refine l1 162 30 ?_;refine aS z 30 (.tmp 16) z b2 0 z a6 e3 J.o.2.1.whole f7 f3 (by rw[e2.o.1];exact bN) ?_))
 refine(np Pr Y.o.2.2 J.o.2.2.2).mono ?_;clear p0 p1 q0 q1;rintro e g6 ⟨rfl,g⟩;have a7:=O (J.o.1.trans (g.mono J.o.1.size));have g5:=O (R.o.trans (g.mono R.o.size));clear g Y J;go_wp2_with fail;refine(d7.o g6 (a0.o.trans (g5.o.mono a0.o.size))).mono ?_;rintro e g7 ⟨rfl,g⟩;have a8:=O (a7.o.trans (g.mono a7.o.size));clear g a7 d7;rcases g4.o with ⟨rfl,h0⟩|⟨rfl,rfl⟩;all_goals
  go_wp2_with fail;refine(eh g7 (HW.o.below a8.o)).mono ?_;rintro e h5 ⟨rfl,g⟩;have d5:=O (a8.o.trans (g.mono a8.o.size));clear g;go_wp2_with fail;go_ret;first
  |exact⟨z,d5.o⟩
  |exact⟨by show Ending.returned (.bool (er !=2))=_;rw[show (er !=2)=true from by simpa using h0],d5.o⟩
theorem Db(W:Fk)(x y:Int)(g:0<=x/\x<256)(w:0<=y/\y<256):(convert 52 9 (.slice (some ⟨W.1.size,0,none⟩) 2 2)).run prog (W.alloc (.cells #[.int .u8 x,.int .u8 y] 5))= .ok (.string ⟨#[UInt8.ofNat x.toNat,UInt8.ofNat y.toNat]⟩) (W.alloc (.cells #[.int .u8 x,.int .u8 y] 5)):=by
 have h:=run_convert_bytes_back (P:=prog) (W.alloc (.cells #[.int .u8 x,.int .u8 y] 5)) 52 9 5 ⟨W.1.size,0,none⟩ 2 [UInt8.ofNat x.toNat,UInt8.ofNat y.toNat] (by kernel_rfl) (by kernel_rfl) (by kernel_rfl) (fun j A=>by
  have e:∀q:Int,0<=q->q<256->(((UInt8.ofNat q.toNat).toNat:Nat):Int)=q:=fun q g w=>by rw[UInt8.toNat_ofNat'];omega
  have C:j=0∨j=1:=by simp at A;omega
  rcases C with rfl|rfl
  .simp only[Addr.add,List.getElem_cons_zero,e x g.1 g.2];simp
  .simp only[Addr.add,List.getElem_cons_succ,List.getElem_cons_zero,e y w.1 w.2];simp)
 exact h
def CZ(s:ByteArray):St:= .mk 1 0 0 s aq (.mk 1 0 aq 0 false 0 []) aT [] [] 0 0 0 false
def Dm(s:ByteArray):List Fr:=[.int .i64 1,.int .i64 0,.int .i64 0,.string s,.string ⟨#[]⟩,.int .i64 1,.int .i64 0,.string ⟨#[]⟩,.int .i64 0,.bool false,.int .i64 0,.slice none 0 0,.int .i64 0,.int .i64 0,.string ⟨#[]⟩,.int .i64 0,.bool false,.int .i64 0,.slice none 0 0,.slice none 0 0,.slice none 0 0,.int .i64 0,.int .i64 0,.int .i64 0,.bool false]
def CY(p:Int):St:= .mk 14 p 1 aq aq aT aT [] [] 0 0 0 false
def Dl(p:Int):List Fr:=[.int .i64 14,.int .i64 p,.int .i64 1,.string ⟨#[]⟩,.string ⟨#[]⟩,.int .i64 0,.int .i64 0,.string ⟨#[]⟩,.int .i64 0,.bool false,.int .i64 0,.slice none 0 0,.int .i64 0,.int .i64 0,.string ⟨#[]⟩,.int .i64 0,.bool false,.int .i64 0,.slice none 0 0,.slice none 0 0,.slice none 0 0,.int .i64 0,.int .i64 0,.int .i64 0,.bool false]
def Da(v:Fr):List Fr:=[.int .i64 6,.int .i64 0,.int .i64 0,.string fh,.int .i64 0,v]
theorem CW{ok:Nat->Prop}(k:Int):ExL ok w [.int .i64 k,.int .i64 0,.string ⟨#[]⟩,.int .i64 0,.bool false,.int .i64 0,.slice none 0 0] (.mk k 0 aq 0 false 0 []):=by unfold ExL;exact⟨none,0,z,⟨FL _,by decide⟩,by unfold ch;trivial⟩
theorem Do{ok:Nat->Prop}(s:ByteArray):bX ok w (Dm s) (CZ s):=by unfold CZ bX;exact⟨_,_,none,none,0,0,z,CW 1,CW 0,⟨FL _,by decide⟩,by unfold aE;trivial,⟨FL _,by decide⟩,by unfold aE;trivial⟩
theorem Dn{ok:Nat->Prop}(p:Int):bX ok w (Dl p) (CY p):=by unfold CY bX;exact⟨_,_,none,none,0,0,z,CW 0,CW 0,⟨FL _,by decide⟩,by unfold aE;trivial,⟨FL _,by decide⟩,by unfold aE;trivial⟩
theorem CV:∀ {l:List St} {s:St},St.DJ l->s.nb->St.DJ (l++[s])
 | [],s,_,h=>by
  show St.DJ [s]
  unfold St.DJ
  exact⟨h,by unfold St.DJ;trivial⟩
 |x::r,s,hl,h=>by
  show St.DJ (x::(r++[s]))
  unfold St.DJ at hl ⊢
  exact⟨hl.1,CV hl.2 h⟩
theorem Di(s:ByteArray)(h:s.size<=9223372036854775807):(CZ s).nb:=by unfold CZ St.nb Ex.nb Ex.DJ St.DJ;exact⟨h,by decide,⟨by decide,trivial⟩,by unfold aT Ex.nb Ex.DJ;exact⟨by decide,trivial⟩,trivial,trivial⟩
theorem Dg(p:Int):(CY p).nb:=by
 unfold CY St.nb St.DJ;have h:aT.nb:=by unfold aT Ex.nb Ex.DJ;exact⟨by decide,trivial⟩
 exact⟨by decide,by decide,h,h,trivial,trivial⟩
theorem Dh(s:ByteArray):(CZ s).cl:=by unfold CZ St.cl;exact⟨z,bK,bK⟩
theorem Dc(p:Int):(CY p).cl:=by unfold CY St.cl;exact⟨z,bK,bK⟩
def CX(l:List St):Prop:=St.DJ l/\St.cls l
theorem CX.nil:CX []:=⟨by unfold St.DJ;trivial,bK⟩
theorem CX.app{l:List St}{s:St}(h:CX l)(g:s.nb)(j:s.cl):CX (l++[s]):=⟨CV h.1 g,pI h.2 j⟩
theorem CT:(prog.info? 44).map (·.size)=some 1:=by kernel_rfl
theorem Dj{l:List De}{cap B bx:Nat}{lo st:Int}(HW:Hid (Wn w))(HB:Hid (FM w.1.size w W))(d3:Hid (l.length=j))(HG:Hid (aL iw B W (.slice a j cap) l))(R:Hid (CQ l/\j<=80/\B<=W.1.size/\w.1.size<=B))(HX:Hid (ak W bx 51 [.int .i64 lo,.int .i64 st]))
  (c8:0<=lo/\lo<=40)(d1:0<=st/\st<=600)(hU:l2.length=165:=by rfl):
  Code.wp prog (Jp 5 (f5.body.getD .skip)) (Gb prog f5 (sk w)) ⟨(v0::v1::v3::v4::v5:: .pointer (some ⟨bx,0,none⟩):: .bool false:: .slice a j cap::v6::v7::v2::l2).toArray,[]⟩ W:=by
 revert l2;apply aN;iterate 165 intro _
 change Code.wp _ _ _ _ _;obtain⟨e3,e4,d7,e1,d5⟩:=qa;obtain⟨i6,z6,a4,b4,a7,b5,b9⟩:=bJ mS;have a8:Hid (prog.underlying 44=some (.slice 60)):=O (by kernel_rfl);have S:=O c8;have a2:=O d1;clear c8 d1;obtain⟨m,hm⟩:∃m,W.1.size=m:=⟨_,z⟩;have H:=O hm;conv in (Jp _ _)=>whnf
 refine wk fun KK Q=>?_;go_wp2_with (first
  | (with_reducible refine cp 10 (.alloc 46) ?_;refine ag d7 e1 d5 z z m hm ?_;intro W1 k1 b1 d0;have K1:=O k1;have B1:=O b1;have S1:=O fun _:True=>d0;clear k1 b1 d0)
  | (with_reducible refine s0 46 ?_;refine af eH z (.tmp 10) (.tmp 96) z m (Da (.slice none 0 0)) _ z z K1.o z ⟨z,by decide⟩ ?_;intro W2 k2 c2;have K2:=O k2;have C2:=O c2;clear k2 c2))
 refine Q.o _ _ ?_;clear Q KK;have b6:Hid (FM W.1.size W W2):=O (C2.o.below (B:=W.1.size) (Nat.le_of_eq H.o) B1.o);have b8:Hid (m<W2.1.size):=O (by have:=C2.o.size;have:=S1.o trivial;omega);clear B1 S1 C2 K1 hm;refine wk fun KK Q=>?_;go_wp2_with fail;go_loopg [11] lo.toNat (fun x iv wr=>∃ (i n:Nat) (bl:List St) (C:Option Addr) (D:Nat),(i:Int)<=lo/\x=lo.toNat-i/\iv= .int .i64 (i:Int)/\Hid (CX bl/\bl.length=n/\n<=i)/\Hid (FM W.1.size W wr/\ak wr m 46 (Da (.slice C n D))/\m<wr.1.size)/\Hid (aL fn (m+1) wr (.slice C n D) bl));case atStart=>exact⟨0,0,[],none,0,S.o.1,z,z,O ⟨CX.nil,z,FL _⟩,O ⟨b6.o,K2.o,b8.o⟩,O (aL.nil _ _ _)⟩
 case round=>
  clear b6 K2 b8;obtain⟨i,n,bl,C,D,hi,rfl,rfl,g,A,E⟩:=hrel;have a6:(0:Int)<=(i:Int):=by omega
  have V:=HX.o.below A.o.1;have X:=V.cell 0;simp only[FE]at X;clear V;by_cases U:(i:Int)<lo
  .have d6:=Db wr (97+(i:Int)/26) (97+(i:Int) % 26) (by have:=S.o.2;omega) (by omega);obtain⟨nn,a5⟩:∃s,(⟨#[UInt8.ofNat (97+(i:Int)/26).toNat,UInt8.ofNat (97+(i:Int) % 26).toNat]⟩:ByteArray)=s:=⟨_,z⟩;have d9:nn.size=2:=by rw[<-a5];rfl
   rw[a5]at d6;have d4:=O d9;clear a5;have M:FM wr.1.size wr (wr.alloc (.cells #[.int .u8 (97+(i:Int)/26),.int .u8 (97+(i:Int) % 26)] 5)):=(FB _ _).alloc (FL _) _;have d2:=O (E.o.keep (fun c N _=>M.block c N) M.size);have Y:=O (EQ (A.o.1.trans (M.mono A.o.1.size)) (EQ (A.o.2.1.below M) (FJ A.o.2.2 M.size)));have K:Hid ((i:Int)<lo/\lo<=40):=⟨U,S.o.2⟩;have d8:lo<=40:=S.o.2;have c5:=A.o.2.1.cell 5;simp only[Da,FE,FH]at c5;clear M E A;have HN:=O (EQ (show bl.length<=10000000 by have:=g.o.2;omega) Y.o.2.2);go_wp2_with (first
    | ((with_reducible refine cp 119 (.call _) ?_);refine bg fn z (.tmp 104) (.tmp 118) 44 z i6 z6 _ a8.o a4 b4 a7 z b5 (by decide) b9 (m+1) _ _ (.slice C n D) bl z d2 (Dm ((⟨#[121]⟩:ByteArray)++nn)) (CZ ((⟨#[121]⟩:ByteArray)++nn)) (O (Do ((⟨#[121]⟩:ByteArray)++nn))) z (by rw[World.size_alloc];rfl) HN.o.1 HN.o.2 ?_;intro g2 a3 W4 a1 F _)
    | ((with_reducible refine s0 44 ?_);refine az CT z (.tmp 120) (.tmp 119) z m 5 46 (.slice (some ⟨g2,0,none⟩) (bl.length+1) a3) _ z z z z (Y.o.2.1.of (F.o.block _ (Nat.lt_succ_self _))) (show 5<6 by decide) ?_;intro W5 k5 c5;have K5:=O k5;have G:=O c5;clear k5 c5))
   go_roundg (lo.toNat- (i+1));case measure=>have:=K.o;omega
   case rel=>
    have Z:=K.o;refine⟨i+1,n+1,_,_,_,by omega,z,congrArg (Gr .i64) (by omega),O ⟨g.o.1.app (Di _ ?_) (Dh _),by rw[Gk,g.o.2.1];rfl,by have:=g.o.2.2;omega⟩,O ⟨?_,by have h:=K5.o;rw[g.o.2.1]at h;exact h,?_⟩,O (G.o.grow (by have h:=a1.o;rw[g.o.2.1]at h;exact h) (Nat.lt_succ_self _))⟩
    .rw[ByteArray.size_append,d4.o];decide
    .exact G.o.below (by rw[H.o];exact FL _) (Y.o.1.trans (F.o.mono (by rw[H.o];exact Hd _)))
    .rw[G.o.size];exact FJ Y.o.2.2 F.o.size
  .go_wp2_with fail;refine Q.o _ _ ?_;clear Q U a6 X;refine wk fun K2 b7=>?_;go_wp2_with fail;go_loopg [12] st.toNat (fun x iv wr=>∃ (i n:Nat) (bl:List St) (C:Option Addr) (D:Nat),(i:Int)<=st/\x=st.toNat-i/\iv= .int .i64 (i:Int)/\Hid (CX bl/\bl.length=n/\n<=40+i)/\Hid (FM W.1.size W wr/\ak wr m 46 (Da (.slice C n D))/\m<wr.1.size)/\Hid (aL fn (m+1) wr (.slice C n D) bl));case atStart=>exact⟨0,n,bl,C,D,a2.o.1,z,z,O ⟨g.o.1,g.o.2.1,by have:=g.o.2.2;have:=S.o.2;omega⟩,A,E⟩
   case round=>
    clear A E g hi;obtain⟨i,n,bl,C,D,hi,rfl,rfl,g,A,E⟩:=hrel;have a6:(0:Int)<=(i:Int):=by omega
    have V:=HX.o.below A.o.1;have X:=V.cell 1;simp only[FE,FH]at X;clear V;by_cases U:(i:Int)<st
    .have K:Hid ((i:Int)<st/\st<=600):=⟨U,a2.o.2⟩;have d8:st<=600:=a2.o.2;have c5:=A.o.2.1.cell 5;simp only[Da,FE,FH]at c5;go_wp2_with (first
      | ((with_reducible refine cp 133 (.buildSlice 44 _ _) ?_);refine cy z (.tmp 132) z a8.o a4 b4 a7 b5 (by decide) (by decide) _ (Dl _) z z z ?_;intro W3 k3 b3 s3;have K3:=O k3;have J:=O b3;clear k3 b3 s3)
      | ((with_reducible refine cp 134 (.call _) ?_);refine bW fn z (.tmp 128) (.tmp 133) 44 z i6 z6 a8.o a4 b4 a7 b5 (by decide) b9 (m+1) W3 (.slice C n D) bl z (E.o.keep (fun c N _=>J.o.block c N) J.o.size) (Dl _) (CY _) (Dn _) _ 60 K3.o z (by have:=g.o.2;have:=K.o;omega) (FU A.o.2.2 J.o.size) ?_;intro g2 a3 W4 hG hb _ _;have a1:=O hG;have F:=O hb;clear hG hb)
      | ((with_reducible refine s0 44 ?_);refine az CT z (.tmp 135) (.tmp 134) z m 5 46 (.slice (some ⟨g2,0,none⟩) (bl.length+1) a3) _ z z z z ((A.o.2.1.below J.o).of (F.o.block _ (Nat.lt_succ_self _))) (show 5<6 by decide) ?_;intro W5 k5 c5;have K5:=O k5;have G:=O c5;clear k5 c5))
     go_roundg (st.toNat- (i+1));case measure=>have:=K.o;omega
     case rel=>
      have Z:=K.o;refine⟨i+1,n+1,_,_,_,by omega,z,congrArg (Gr .i64) (by omega),O ⟨g.o.1.app (Dg _) (Dc _),by rw[Gk,g.o.2.1];rfl,by have:=g.o.2.2;omega⟩,O ⟨?_,by have h:=K5.o;rw[g.o.2.1]at h;exact h,?_⟩,O (G.o.grow (by have h:=a1.o;rw[g.o.2.1]at h;exact h) (Nat.lt_succ_self _))⟩
      .exact G.o.below (by rw[H.o];exact FL _) ((A.o.1.trans (J.o.mono A.o.1.size)).trans (F.o.mono (by rw[H.o];exact Hd _)))
      .rw[G.o.size];exact FJ A.o.2.2 (FU J.o.size F.o.size)
    .go_wp2_with fail;refine b7.o _ _ ?_;clear b7 U a6 X;have a0:=A.o.1;have e2:B<=m:=by rw[<-H.o];exact R.o.2.2.1
     have e0:∀k,(Value.slice a j cap).ownBlock=some k->k<m:=fun k hk=>by obtain⟨cells,-,h2,-⟩:=HG.o;have:=(h2.lt k hk).2;rw[H.o]at this;exact this
     refine CR (d:=⟨6,0,0,fh,0,bl⟩) (cs:=Da (.slice C n D)) (B:=B) HW (O (HB.o.trans (a0.mono HB.o.size))) d3 (O (HG.o.keep (fun c N _=>a0.block c N) a0.size)) (O ⟨fun d hd=>?_,by have:=R.o.2.1;omega,FU R.o.2.2.1 a0.size,R.o.2.2.2⟩) (O ⟨A.o.2.1,C,D,?_,?_,?_⟩)
     .rcases GG.1 hd with h|h
      .exact R.o.1 d h
      .rw[Hq.1 h];exact⟨⟨show fh.size<=9223372036854775807 by decide,g.o.1.1⟩,g.o.1.2⟩
     .rw[g.o.2.1];rfl
     .obtain⟨a9,c9,Z,h2⟩:=E.o.form;simp only[Value.slice.injEq]at Z;rw[Z.2.2];exact h2
     .exact aE.CQ (fun c N=>⟨by omega,fun e=>by have:=e0 c e;omega⟩) E.o.Dp
theorem Cr(a:Array UInt8):(ByteArray.mk a).size=a.size:=rfl
theorem Du(x:Int)(w:0<=x)(A:x<256)(W:Fk)(b:Nat)(h:W.cell? ⟨b,0,none⟩=some (.int .u8 x)):(convert 52 9 (.slice (some ⟨b,0,none⟩) 1 1)).run prog W= .ok (.string ⟨#[UInt8.ofNat x.toNat]⟩) W:=
 run_convert_bytes_back (P:=prog) W 52 9 5 ⟨b,0,none⟩ 1 [UInt8.ofNat x.toNat] (by kernel_rfl) (by kernel_rfl) (by kernel_rfl) (fun j g=>by
  have:j=0:=by simp at g;omega
  subst this;have e:(((UInt8.ofNat x.toNat).toNat:Nat):Int)=x:=by rw[UInt8.toNat_ofNat'];omega
  simp only[Addr.add,List.getElem_cons_zero,e];exact h)
theorem Dp{P:Program}{F:Array Oper}{g:Exit->Act->Fk->Prop}{E:Region.Mode}{C:List Nat}{S S':Fk->Prop}(A:∀w,S' w->S w):∀ {j:Nat} {D:Array Bool} {a:Act} {w:Fk},cK P E F g C S' j D a w->cK P E F g C S j D a w
 |0,_,_,_,h=>h
 |_+1,_,_,_,h=>⟨h.1,fun i G=>wpOp_mono (fun _ _ h=>⟨fun H=>A _ (h.1 H),Dp A h.2⟩) (h.2 i G)⟩
theorem Dv(U:Int)(a:Option Addr)(n cap:Nat)(lo st:Int)(w:Fk)(H:Wn w)(hl:∀j,j<n->∃g a5,∃x:Int,a=some ⟨g,a5,none⟩/\w.cell? ⟨g,a5+j,none⟩=some (.int .i64 x)):
  Jq prog 5 #[.int .i64 U,.slice a n cap,.agg #[.int .i64 lo,.int .i64 st]] w (sk w):=by
 have HW:=O H;have HL:=O hl;clear H hl;obtain⟨i0,z0,b8,d2,d0,d3,e0⟩:=bJ tz;have d1:Hid (prog.underlying 40=some (.slice 46)):=O (by kernel_rfl);go_enter func5,ntmps5;refine wk fun KK R=>?_;go_wp2_with (first
  | (with_reducible refine cp 5 (.box 51 _) ?_;refine aJ z (.tmp 2) z [.int .i64 lo,.int .i64 st] z w.1.size z ?_;intro W1 k1 b1 g6;have K1:=O k1;have B1:=O b1;clear k1 b1 g6))
 refine R.o _ _ ?_;clear R KK;have x0:=K1.o.cell 0;have x1:=K1.o.cell 1;simp only[FE,FH]at x0 x1;refine wk fun KK R=>?_;go_wp2_with fail;all_goals first
  | (refine(eh W1 (HW.o.below B1.o)).mono ?_
     rintro e W7 ⟨rfl,hb⟩;have C:=O (B1.o.trans (hb.mono B1.o.size));clear hb;go_wp2_with fail;go_ret;exact⟨z,C.o⟩)
  |skip
 rename_i f7 b7 h0 g7 g8 h3 e8;have h4:st<=600:=e8.2;clear e8;refine R.o _ _ ?_;clear R KK x0 x1;refine wk fun KK R=>?_;go_wp2_with fail;refine R.o _ _ ?_;clear R KK;refine wk fun KK R=>?_;have C:=O (EQ K1.o B1.o);clear K1 B1;go_wp2_with fail;go_loopg [7,8] U.toNat (fun x lv iv wr=>∃ (i:Nat) (l:List De) (a:Option Addr) (cap J:Nat),(i:Int)<=U/\x=U.toNat-i/\iv= .int .i64 (i:Int)/\lv= .slice a J cap/\Hid (CQ l/\l.length=J/\J<=i)/\Hid (ak wr w.1.size 51 [.int .i64 lo,.int .i64 st]/\FM w.1.size w wr)/\Hid (aL iw (w.1.size+1) wr (.slice a J cap) l));case atStart=>exact⟨0,[],none,0,0,f7,z,z,z,O ⟨(fun _ h=>nomatch h),z,FL _⟩,C,O (aL.nil _ _ _)⟩
 case round=>
  clear C;obtain⟨i,l,ga,b5,J,hi,rfl,rfl,rfl,F,C,X⟩:=hrel;have c9:(0:Int)<=(i:Int):=by omega
  by_cases e2:(i:Int)<U
  .have e1:=Db wr (97+(i:Int)/26) (97+(i:Int) % 26) (by omega) (by omega);have N:FM wr.1.size wr (wr.alloc (.cells #[.int .u8 (97+(i:Int)/26),.int .u8 (97+(i:Int) % 26)] 5)):=(FB _ _).alloc (FL _) _;have f1:=O (X.o.keep (fun c hc _=>N.block c hc) N.size);have a9:=O (EQ (C.o.1.below N) (C.o.2.trans (N.mono C.o.2.size)));have HI:Hid ((i:Int)<U/\U<=70):=⟨e2,b7⟩;have e3:l.length<=10000000:=by have:=F.o.2;omega
   have hB:w.1.size+1<=(wr.alloc (.cells #[.int .u8 (97+(i:Int)/26),.int .u8 (97+(i:Int) % 26)] 5)).1.size:=a9.o.1.lt;have HN:=O (EQ e3 hB);obtain⟨e4,g1,e5⟩:=F.o;have d5:=O (EQ e4 e5);clear F;subst g1;clear e4 e5;clear N X C e3 hB;go_wp2_with (first
    | ((with_reducible refine cp 70 (.call _) ?_);refine bg iw z (.tmp 56) (.tmp 69) 40 z i0 z0 _ d1.o b8 d2 d0 z d3 (by decide) e0 (w.1.size+1) _ _ (.slice ga l.length b5) l z f1 _ ⟨3,0,0,_,0,[]⟩ (O ⟨none,0,z,⟨FL _,by decide⟩,trivial⟩) z (by rw[World.size_alloc];rfl) HN.o.1 HN.o.2 ?_;intro g2 f5 W4 f6 d9 f9;clear f9))
   go_roundg (U.toNat- (i+1));case measure=>have:=HI.o;omega
   case rel=>
    have h1:=HI.o;refine⟨i+1,_,_,_,_,by omega,z,congrArg (Gr .i64) (by omega),z,O ⟨fun d hd=>?_,by simp,by have:=d5.o.2;omega⟩,O ⟨?_,?_⟩,f6⟩
    .rcases GG.1 hd with h|h
     .exact d5.o.1 d h
     .rw[Hq.1 h];exact⟨⟨by simp only[ByteArray.size_append,Cr,Hh,FV,Gg];decide,trivial⟩,trivial⟩
    .exact a9.o.1.of (d9.o.block _ (Nat.lt_succ_self _))
    .exact a9.o.2.trans (d9.o.mono (Hd _))
  .go_wp2_with fail;refine R.o _ _ ?_;clear R;refine wk fun K2 d4=>?_;go_wp2_with fail;have HI:Hid (U<=70):=b7;clear e2 c9;go_loopg [7,9] n (fun x lv iv wr=>∃ (i:Nat) (l:List De) (a:Option Addr) (cap J:Nat),i<=n/\x=n-i/\iv= .int .i64 (i:Int)/\lv= .slice a J cap/\Hid (CQ l/\l.length=J/\J<=70+i)/\Hid (ak wr w.1.size 51 [.int .i64 lo,.int .i64 st]/\FM w.1.size w wr)/\Hid (aL iw (w.1.size+1) wr (.slice a J cap) l));case atStart=>exact⟨0,_,_,_,_,FX _,z,z,z,O ⟨F.o.1,F.o.2.1,by have:=F.o.2.2;have:=b7;omega⟩,C,X⟩
   case round=>
    clear C X F;obtain⟨i,l,ga,b5,J,hi,rfl,rfl,rfl,F,C,X⟩:=hrel;have c9:(0:Int)<=(i:Int):=by omega
    by_cases f8:i<n
    .have g9:(i:Int)< (n:Int):=by omega
     obtain⟨g,a5,v,rfl,hc⟩:=HL.o i f8;have c1:=ai C.o.2 g (a5+i) _ hc;have e9:IntKind.u8.wrap (IntKind.i64.wrap (97+(i:Int)))=97+(i:Int):=by rw[IntWalk.i64_in _ (by omega),IntWalk.u8_in _ (by omega)]
     have d8:=O e9;clear e9;have e1:=Du (97+(i:Int)) (by omega) (by omega);obtain⟨p,hp⟩:∃p:Nat,(i:Int).tmod 3=p:=⟨((i:Int).tmod 3).toNat,(Int.toNat_of_nonneg (Int.tmod_nonneg _ c9)).symm⟩;have e6:p=0∨p=1∨p=2:=by have:=Int.tmod_lt_of_pos (i:Int) (show (0:Int)<3 by decide);omega
     have g5:Hid (J<=80):=by have:=F.o.2.2;show J<=80;omega
     go_wp2_with fail;have h2:(p:Int)<3:=by omega
     have d6:Hid (p=0∨p=1∨p=2):=e6;clear e6;obtain⟨A,hV⟩:∃A,wr.drew=A:=⟨_,z⟩;have g3:prog.follows .mixedOrders=true:=by kernel_rfl
     have a3:FM wr.1.size wr A:=by rw[<-hV];exact(FB _ wr).drew
     have G:Hid (FM A.1.size A A):=O (FB _ A);have f0:=O (ai a3 g (a5+i) _ c1);have a8:=O (EQ (C.o.1.below a3) (C.o.2.trans (a3.mono C.o.2.size)));have f3:=O (X.o.keep (fun c hc _=>a3.block c hc) a3.size);clear C X c1 a3;refine al [18,19] (fun W=>FM A.1.size A W) g3 ?_;rw[hV];clear hV;obtain⟨q,hq⟩:∃q:Int,[2,5,1].getD p 0=q:=⟨_,z⟩;have d7:=O hq;obtain⟨nn,c8⟩:∃s,(⟨#[UInt8.ofNat (97+(i:Int)).toNat]⟩:ByteArray)=s:=⟨_,z⟩;have g4:nn.size=1:=by rw[<-c8];rfl
     rw[c8]at e1;have f4:=O g4;clear c8 hq;refine fa 0 ?_;refine nk 2 ?_;refine ke 6 ?_;refine nm ?_;refine ke 12 ?_;refine fK (fun W=>W.cell? ⟨g,a5+i,none⟩=some (.int .i64 v)) 15 (fun W h=>ai h _ _ _ f0.o) ?_;refine nm ?_;refine cj [1,9] (by kernel_rfl) ?_ (by decide);intro j hj;simp only[FQ,FO,or_false]at hj;rcases hj with rfl|rfl;focus
      refine⟨_,z,z,fun M D=>?_⟩;go_simp;obtain⟨E,V⟩:∃x,A.alloc (.cells #[.int .i64 2,.int .i64 5,.int .i64 1] 3)=x:=⟨_,z⟩;have Y:FM A.1.size A E:=by rw[<-V];exact(FB _ A).alloc (FL _) _
      have a4:ak E A.1.size 3 [.int .i64 2,.int .i64 5,.int .i64 1]:=by rw[<-V];exact ak.new _ _ _
      rw[V];refine D _ _ (fun _=>Y) ?_;obtain⟨b1,N⟩:∃b,A.1.size=b:=⟨_,z⟩;have a7:E.cell? ⟨b1,p,none⟩=some (.int .i64 q):=by rw[<-N,a4.cell,<-d7.o];rcases d6.o with rfl|rfl|rfl<;>rfl
      have G:Hid (FM A.1.size A E/\E.cell? ⟨b1,p,none⟩=some (.int .i64 q)):=O ⟨Y,a7⟩;rw[N];clear D M V Y a4 a7;refine Dp (S':=fun W=>FM A.1.size A W/\W.cell? ⟨b1,p,none⟩=some (.int .i64 q)) (fun _ h=>by rw[<-N];exact h.1) ?_;refine fa 4 ?_;refine fK (fun W=>W.cell? ⟨b1,p,none⟩=some (.int .i64 q)) 5 (fun W h=>h.2) ?_;refine nm ?_;refine oD 9 fun M D=>?_;go_simp;rw[d8.o];obtain⟨K,S⟩:∃x,E.alloc (.cells #[.int .u8 (97+(i:Int))] 5)=x:=⟨_,z⟩;have Z:FM A.1.size A K:=by rw[<-S];exact G.o.1.alloc G.o.1.size _
      have a1:K.cell? ⟨b1,p,none⟩=some (.int .i64 q):=by rw[<-S];exact ai ((FB _ E).alloc (FL _) _) _ _ _ G.o.2
      have a2:ak K E.1.size 5 [.int .u8 (97+(i:Int))]:=by rw[<-S];exact ak.new _ _ _
      rw[S];refine D _ _ (fun _=>⟨Z,a1⟩) ?_;obtain⟨Q,a0⟩:∃b,E.1.size=b:=⟨_,z⟩;rw[a0]at a2 ⊢;have a6:Hid ((FM A.1.size A K/\K.cell? ⟨b1,p,none⟩=some (.int .i64 q))/\K.cell? ⟨Q,0,none⟩=some (.int .u8 (97+(i:Int)))):=O ⟨⟨Z,a1⟩,a2.cell 0⟩;clear G D M S Z a2 a1 N a0;have G:=a6;clear a6;refine Dp (S':=fun W=> (FM A.1.size A W/\W.cell? ⟨b1,p,none⟩=some (.int .i64 q))/\W.cell? ⟨Q,0,none⟩=some (.int .u8 (97+(i:Int)))) (fun _ h=>h.1) ?_;refine fK (fun W=>W.cell? ⟨Q,0,none⟩=some (.int .u8 (97+(i:Int)))) 10 (fun W h=>h.2) ?_;refine fa 11 ?_;refine nm ?_
     rotate_left;focus
      refine⟨_,z,z,fun M D=>?_⟩;go_simp;rw[d8.o];obtain⟨E,V⟩:∃x,A.alloc (.cells #[.int .u8 (97+(i:Int))] 5)=x:=⟨_,z⟩;have Y:FM A.1.size A E:=by rw[<-V];exact(FB _ A).alloc (FL _) _
      have a4:ak E A.1.size 5 [.int .u8 (97+(i:Int))]:=by rw[<-V];exact ak.new _ _ _
      rw[V];refine D _ _ (fun _=>Y) ?_;obtain⟨Q,a0⟩:∃b,A.1.size=b:=⟨_,z⟩;rw[a0]at a4;have a7:E.cell? ⟨Q,0,none⟩=some (.int .u8 (97+(i:Int))):=a4.cell 0;have G:Hid (FM A.1.size A E/\E.cell? ⟨Q,0,none⟩=some (.int .u8 (97+(i:Int)))):=O ⟨Y,a7⟩;rw[a0];clear D M V Y a4 a7;refine Dp (S':=fun W=>FM A.1.size A W/\W.cell? ⟨Q,0,none⟩=some (.int .u8 (97+(i:Int)))) (fun _ h=>by rw[<-a0];exact h.1) ?_;refine fK (fun W=>W.cell? ⟨Q,0,none⟩=some (.int .u8 (97+(i:Int)))) 10 (fun W h=>h.2) ?_;refine fa 11 ?_;refine nm ?_;refine oD 1 fun M D=>?_;go_simp;obtain⟨K,S⟩:∃x,E.alloc (.cells #[.int .i64 2,.int .i64 5,.int .i64 1] 3)=x:=⟨_,z⟩;have Z:FM A.1.size A K:=by rw[<-S];exact G.o.1.alloc G.o.1.size _
      have a1:K.cell? ⟨Q,0,none⟩=some (.int .u8 (97+(i:Int))):=by rw[<-S];exact ai ((FB _ E).alloc (FL _) _) _ _ _ G.o.2
      have a2:ak K E.1.size 3 [.int .i64 2,.int .i64 5,.int .i64 1]:=by rw[<-S];exact ak.new _ _ _
      rw[S];refine D _ _ (fun _=>⟨Z,a1⟩) ?_;obtain⟨b1,N⟩:∃b,E.1.size=b:=⟨_,z⟩;rw[N]at a2 ⊢;have e7:K.cell? ⟨b1,p,none⟩=some (.int .i64 q):=by rw[a2.cell,<-d7.o];rcases d6.o with rfl|rfl|rfl<;>rfl
      have a6:Hid ((FM A.1.size A K/\K.cell? ⟨b1,p,none⟩=some (.int .i64 q))/\K.cell? ⟨Q,0,none⟩=some (.int .u8 (97+(i:Int)))):=O ⟨⟨Z,e7⟩,a1⟩;clear G D M S Z a2 a1 N a0 e7;have G:=a6;clear a6;refine Dp (S':=fun W=> (FM A.1.size A W/\W.cell? ⟨b1,p,none⟩=some (.int .i64 q))/\W.cell? ⟨Q,0,none⟩=some (.int .u8 (97+(i:Int)))) (fun _ h=>⟨h.1.1,h.2⟩) ?_;refine fa 4 ?_;refine fK (fun W=>W.cell? ⟨b1,p,none⟩=some (.int .i64 q)) 5 (fun W h=>h.1.2) ?_;refine nm ?_
     all_goals
      refine fa 16 ?_;refine nm ?_;refine oD 17 fun M D=>?_;refine cF (.tmp 93) z d1.o b8 d2 d0 d3 (by decide) (by decide) _ [.int .i64 q,.int .i64 0,.int .i64 0,.string _,.int .i64 v,.slice none 0 0] z z z ?_;intro W4 k4 b4 s4;have b6:(FM A.1.size A W4/\W4.cell? ⟨b1,p,none⟩=some (.int .i64 q))/\W4.cell? ⟨Q,0,none⟩=some (.int .u8 (97+(i:Int))):=⟨⟨G.o.1.1.trans (b4.mono G.o.1.1.size),ai b4 _ _ _ G.o.1.2⟩,ai b4 _ _ _ G.o.2⟩;refine D _ _ (fun _=>b6) ?_;have K4:=O k4;have B4:=O b6.1.1;clear D M k4 b4 s4 b6 G;refine nm ?_;refine oD 18 fun M D=>?_
      refine cw iw (.tmp 77) (.tmp 94) 40 z i0 z0 d1.o b8 d2 d0 d3 (by decide) e0 (w.1.size+1) W4 (.slice ga J b5) l z (f3.o.keep (fun c hc _=>B4.o.block c hc) B4.o.size) _ ⟨q,0,0,_,v,[]⟩ ⟨none,0,z,⟨FL _,by decide⟩,trivial⟩ K.1.size 46 K4.o z (by rw[F.o.2.1];have:=g5.o;omega) (FU a8.o.1.lt B4.o.size) ?_;intro g2 f5 W5 hG hb _ _;have f2:=O hG;have B5:=O hb;clear hG hb;refine D _ _ (fun h=>by cases h) ?_;clear D M;refine nm ?_;refine oD 19 fun M D=>?_;go_simp;refine D _ _ (fun h=>by cases h) ?_;clear D M;refine dn ?_;go_wp2_with fail;go_roundg (n- (i+1));case measure=>omega
      case rel=>
       refine⟨i+1,l++[⟨q,0,0,(⟨#[97]⟩:ByteArray)++nn,v,[]⟩],_,_,J+1,by omega,z,congrArg (Gr .i64) (by omega),by rw[F.o.2.1],O ⟨fun d hd=>?_,by rw[Gk,F.o.2.1];rfl,by have:=F.o.2.2;omega⟩,O ⟨?_,?_⟩,by have h:=f2;rw[F.o.2.1]at h;exact h⟩
       .rcases GG.1 hd with h|h
        .exact F.o.1 d h
        .rw[Hq.1 h];exact⟨⟨by simp only[ByteArray.size_append,f4.o,Cr,Hh,FV,Gg];decide,trivial⟩,trivial⟩
       .exact(a8.o.1.below B4.o).of (B5.o.block _ (Nat.lt_succ_self _))
       .exact(a8.o.2.trans (B4.o.mono a8.o.2.size)).trans (B5.o.mono (Hd _))
    .go_wp2_with fail;refine d4.o _ _ ?_;clear d4;refine Dj (B:=w.1.size+1) HW (O C.o.2) (O F.o.2.1) X (O ⟨F.o.1,by have:=F.o.2.2;omega,C.o.1.lt,Hd _⟩) (O C.o.1) ⟨by omega,by omega⟩ ⟨by omega,by omega⟩
end Go.Proofs.YtgppcdfgdaggjaaGreatDoor
