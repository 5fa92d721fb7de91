/- Texts laid together. No condition but what each law says. -/
import Derived.Test.YtgppcdfgdaggjaaGreatDoorN20
set_option maxRecDepth 100000
set_option maxHeartbeats 8000000
namespace Go.Proofs.YtgppcdfgdaggjaaGreatDoor
open Go.RowKit Go.Maps Go.Proofs.Tryz
open List renaming mem_cons→FQ,not_mem_nil→FO,getElem?_eq_getElem→FC,getElem?_eq_some_iff→FW,mem_iff_getElem→HX,getD_eq_getElem?_getD→FD,getElem?_set_ne→Ge,getElem?_set_self→Hj,drop_eq_getElem_cons→FZ,drop_length→Hn,length_set→Hs,mem_or_eq_of_mem_set→Iw,getElem_mem→Gy,all_eq_true→GC,cons_append→GM,nil_append→Hw,length_cons→FV,getElem?_cons_succ→FH,getElem?_cons_zero→FE,mem_map→HM,replicate→Ie
open Go renaming World→Fk,Value→Fr,TypeId→GA,bodyPost→Gb,Calls→Jq,Ending→GP,wpList_load_mid→Gn,run_underlying→Hg,YieldsIf→IL,mem_ready→Il,ready_mono→HT
open Nat renaming mul_le_mul_right→Ip,zero_add→GE,le_refl→FL,lt_of_lt_of_le→FJ,zero_le→FX,le_trans→FU
open Go.World renaming cell?→FI,block_lt_of_cell?→FF,setCell→Gc
open And renaming intro→EQ
open Go.RowKit renaming Below→FM
open Go.RowKit.Below renaming refl→FB
open Go.Code renaming wp→FR
open Go.IntWalk renaming wrap64_in→Gi
open Go.Value renaming int→Gr,ownBlock→GF,slice→Gd,oneCell'→GZ
open _root_.Array renaming getElem?_eq_some_iff→FT,setIfInBounds_comm→Gq
open Ne renaming symm→Gp
open Option renaming map_eq_some_iff→Ga
open Or renaming inl→GJ
open Go.Instr renaming findNow→Hc,lookup→Hx
open Go.MapKept renaming IsKey→GQ,run_checkKey→GR,run_findKey→GW,run_getObj_map→GK
open Go.Region renaming Mode→GS,binds→HK,ready→FP,free→GI,free_spec→II,noSelect→Gt,noSelect_spec→Is,wanted→Gh
open Classical renaming byContradiction→HV
open Decidable renaming em→HY
open Bool renaming and_eq_true→FG,or_eq_true→HH
variable {V W w w0:Fk}{u v v0 v1 v2 v3 v4 v5:Fr}{b c g i j k m n n0 n2 n5:Nat}{a a0 a1:Option Addr}{D:DF}{l2 l3 l4 l5:List Fr}{s t:ByteArray}{p0 p1:Int}{B0:St}
def fe(w0:Fk):El (List St):=⟨44,1,fun _ _ cs b=>∃ (a:Option Addr) (cap:Nat),cs=[.slice a b.length cap]/\aF b.length cap/\aE (fun _=>True) w0 a 0 b,fun _ h=>h,fun _ h=>h,fun h=>by
 obtain⟨a,cap,h,-⟩:=h
 subst h
 refine⟨z,fun v hv=>?_⟩
 simp only[FQ,FO,or_false]at hv
 subst hv
 rfl,fun h=>h⟩
def sP(w0:Fk)(ok0:Nat->Prop):El Th:=⟨71,3,fun _ _ cs x=>Th.L ok0 w0 cs x,fun _ h=>h,fun _ h=>h,fun h=>gh.cells h,fun h=>h⟩
theorem tx{ok:Nat->Prop}{l:List Th}(h:Ro gh ok W v l):Ro (sP W ok) ok W v l:=h
theorem kc{J:Type}{E:El J}{B:Nat}{l:List J}(h:aL E B w v l)(a1:0<l.length)(_:0<E.sz):∃g cap C,v= .slice (some (ad g 0)) l.length cap/\B<=g/\ak w g E.ty C/\aF l.length cap/\l.length*E.sz<=C.length/\∀j x,l[j]? =some x->∃cs,E.L (fun c=> (B<=c/\c≠g)/\c<w.1.size) w cs x/\∀t,t<E.sz->C[j*E.sz+t]? =cs[t]? :=by
 have M:=h.form;let ⟨cells,h1,V,H⟩:=h
 rcases V.2 with ⟨rfl,h4⟩|⟨g,cap,F,rfl,h5,h6,W,h8,X,Z⟩
 .omega
 .have hR:aF l.length cap:=by
   let ⟨a,c,Q,K⟩:=M
   cases Q;exact K
  have S:l.length*E.sz<=F.toList.length:=by
   have D:F.toList.length=cap*E.sz:=by simpa using X
   rw[D];exact Ip _ W
  refine⟨g,cap,F.toList,z,h5,by unfold ak;simpa using h6,hR,S,fun j x G=>?_⟩;have hj:=(FW.1 G).1;have hL:=H j cells[j] x (FC (by omega)) G;refine⟨cells[j],E.CQ (fun c A=>⟨⟨A.1.1,fun e=>A.1.2 (by rw[e];rfl)⟩,A.2⟩) hL,fun t R=>?_⟩;have a0:∀c∈cells,c.length=E.sz:=fun c A=>by obtain⟨i,N,rfl⟩:=HX.1 A;exact(E.cells (H i _ _ (FC N) (FC (by omega)))).1
  have U:=gq cells j t cells[j] a0 (FC (by omega)) R;rw[<-U,<-Z,List.getElem?_take];have Y:j*E.sz+t<l.length*E.sz:=by have D:(j+1)*E.sz<=l.length*E.sz:=Ip _ hj;rw[Nat.add_mul]at D;omega
  rw[aD Y]
theorem oe{B cap:Nat}{C:List Fr}{l:List Th}(Y:n=l.length)(M:B<=g)(R:aF l.length cap)(U:∀j x,l[j]? =some x->∃cs,Th.L (fun c=> (B<=c/\c≠g)/\c<w.1.size) w cs x/\∀t,t<3->C[j*3+t]? =cs[t]?)(a1:l.length*3<=C.length)(J:i<l.length){b:List St}{mo:Nat}(X:aF b.length c/\aE (B<=·) W a 0 b)
  (Q:ak W g 71 ((C.set (i*3+2) (.slice a b.length c)).set (i*3+1) (I mo)))(S:∀c,c≠g->c<w.1.size->W.1[c]? =w.1[c]?):Ro gh (B<=·) W (.slice (some (ad g 0)) n cap) (l.set i ⟨(l.getD i default).name,mo,b⟩):=by
 subst Y;refine⟨some (ad g 0),cap,by simp,by simpa using R,fun j x D=>?_⟩;have N:j<l.length:=by have:=(FW.1 D).1;simpa using this
 let ⟨cs,G,H⟩:=U j l[j] (FC N)
 by_cases e:i=j
 .subst e;rw[Hj J]at D;cases D;obtain⟨a0,c0,rfl,-⟩:=G;refine⟨g,0,[.string (l.getD i default).name,I mo,.slice a b.length c],z,M,fun t u A=>?_,a,c,z,X⟩;have E:t<3:=(FW.1 A).1;show W.cell? (ad g (0+i*3+t))=some u;rw[Q.cell,<-A,GE];have F:=H t E;have Z:l.getD i default=l[i]:=by rw[FD,FC J];rfl
  rcases t with _|_|_|t
  .rw[Ge (by omega),Ge (by omega),F,Z];rfl
  .rw[Hj (by simp;omega)];rfl
  .rw[Ge (by omega),Hj (by omega)];rfl
  .omega
 .rw[Ge e,FC N]at D;cases D;refine⟨g,0,cs,z,M,fun t u A=>?_,gh.CQ (fun c F=>F.1.1) (gh.keep (fun b o u K A=>?_) G)⟩
  .have E:t<3:=by have h1:=(FW.1 A).1;have V:=(gh.cells G).1;have h3:cs.length=3:=V;omega
   show W.cell? (ad g (0+j*3+t))=some u;rw[Q.cell,GE,Ge (by omega),Ge (by omega),H t E];exact A
  .rw[<-A];simp[FI,S b K.1.2 K.2]
theorem jk{A:Type}{g:Array Oper}{j:List Oper}{E:El A}{ok:Nat->Prop}{l:List A}{o:Oper}{a:Act}{C:Exit->Act->Fk->Prop}(W:o.guard=none)(s x:Operand)(t:GA)(S:o.op= .call {callee:= .builtin .append,args:= #[s,x],argTypes:= #[t,t]})(B:Nat){i:TypeInfo}{z:Fr}(H:prog.underlying t=some (.slice E.ty))(D:prog.info? E.ty=some i)(U:i.zero=some z)
  (F:i.size=E.sz)(a0:z.cells.size=E.sz)(Z:0<E.sz)(V:i.bytes<=1024)(K:a.eval s= .slice none 0 0)(J:a.eval x=v)(h:Ro E ok w v l)(Y:∀cs x,x∈l->E.L ok w cs x->E.L (fun c=>B<=c/\c<w.1.size) w cs x)(R:l.length<=10000000)(G:B<=w.1.size)
  (N:∀v' w',aL E B w' v' l->bL w w'->wpList prog g C j (a.put o.dst v') w'):wpList prog g C (o::j) a w:=
 wpList_plain W fun _ X=>mf s x t S B H D U F a0 Z V K J h Y R G fun v' w' Q M=>X _ _ (N v' w' Q M)
theorem aG.Fx{cs:List Fr}{ok:Nat->Prop}(h:aG ok w D cs):aG ok w {D with CY:=0} (cs.set 16 (I 0)):=by obtain⟨C,G,j,A,H,n1,n2,n3,n4,F,rfl,E,g⟩:=h;exact⟨C,G,j,A,H,n1,n2,n3,n4,F,z,E,g⟩
theorem mb{E:DF}{cs:List Fr}{bl:List (List St)}{m1:Option Nat}(HQ:Hid (Fq w0 n0 n5 w cs W))(HD:Hid (aG (ew w W) W E cs))(hI:E.CR=0->hz E)(b7:E.CR=0->bl.length<=E.P.threads.length/\E.P.threads.length<=64)(e9:Hid (Ro (fe w) (ew w W) W (.slice a0 bl.length g) bl))(u4:Hid (∀b∈bl,qR b))(m7:bl.length<=1000)
  (l6:(DF.Eh 0 bl E).CR=0->∃i,m1=some i/\i< (DF.Eh 0 bl E).names.length)(hU:l2.length=121:=by rfl):
  FR prog (Jp 7 (f15.body.getD .skip)) (Gb prog f15 (lh w0 (rg (DF.Eh 0 bl E) m1))) ⟨(v0::v1::Pt n0::Pt n5::v2::Pt w.1.size:: .slice a0 bl.length g::v3::I (qN m1)::l2).toArray,[]⟩ W:=by
 revert l2;apply aN;iterate 121 intro _
 change FR _ _ _ _ _;obtain⟨du,l8,n8⟩:=cd;obtain⟨i9,z9,t8,s7,q0⟩:=em;obtain⟨iT,zT,t4,q9,r3,p4,q1⟩:=bJ sJ;have r6:Hid (prog.underlying 25=some (.slice 71)):=O (by kernel_rfl);have m5:prog.follows .mixedOrders=true:=by kernel_rfl
 obtain⟨F,hF⟩:∃F,DF.Eh 0 bl E=F:=⟨_,z⟩;rw[hF]at l6 ⊢;have HF:=O hF;have m4:=O l6;obtain⟨M,hM⟩:∃M,bl.length=M:=⟨_,z⟩;rw[hM]at e9 b7 m7 ⊢;have HM:=O hM;have r2:=O fun _:True=>m7;have j2:Hid (Hid (Fq w0 n0 n5 w cs W)/\Hid (cs.length=20/\∀v∈cs,v.oneCell'=true)/\cs[19]? =some (I E.CR)/\(E.CR≠0->F.CR=E.CR/\cs[17]? =some (I F.pos.1)/\cs[18]? =some (I F.pos.2))/\(E.CR=0->∃X,X.CR=0/\aG (ew w W) W X cs/\hz X/\M<=X.P.threads.length/\X.P.threads.length<=64/\DF.Eh 0 (bl.drop 0) X=F)):=O (by refine⟨HQ,O HD.o.cells,HD.o.c19,fun h=>?_,fun h=>⟨E,h,HD.o,hI h,(b7 h).1,(b7 h).2,hF⟩⟩;have hk:=er h 0 bl;rw[hF]at hk;rw[hk];exact⟨z,HD.o.c17,HD.o.c18⟩)
 clear l6 hF hM b7 hI HQ HD m7;conv in (Jp _ _)=>whnf
 refine wk fun KK p6=>?_;go_wp2_with fail;go_loopg [9] M (fun x iv wr=>∃ (i:Nat) (d1:List Fr) (fl:Int),i<=M/\x=M-i/\iv=I i/\Hid (Hid (Fq w0 n0 n5 w d1 wr)/\Hid (d1.length=20/\∀v∈d1,v.oneCell'=true)/\d1[19]? =some (I fl)/\(fl≠0->F.CR=fl/\d1[17]? =some (I F.pos.1)/\d1[18]? =some (I F.pos.2))/\(fl=0->∃X,X.CR=0/\aG (ew w wr) wr X d1/\hz X/\M<=X.P.threads.length/\X.P.threads.length<=64/\DF.Eh i (bl.drop i) X=F))/\Hid (Ro (fe w) (ew w wr) wr (.slice a0 M g) bl));case atStart=>exact⟨0,cs,E.CR,FX _,z,z,j2,e9⟩
 case round=>
  clear j2 e9;obtain⟨i,d1,fl,hi,rfl,rfl,j2,e9⟩:=hrel;obtain⟨HQ,HL,m8,t7,r7⟩:=j2.o;have c19:=(HQ.o.f.cell 19).trans m8;have HG:=O r7;have n6:=O t7;have p0:=O m8;clear m8 r7 t7;by_cases q2:i<M
  .have u5:(i:Int)< (M:Int):=by omega
   by_cases d7:fl=0
   .subst d7;have v9:(0:Int)<=(i:Int):=by omega
    obtain⟨X,o0,hd,q5,p5,s6,b7⟩:=HG.o z;have c16:=(HQ.o.f.cell 16).trans hd.c7.2.2.1;have u7:=HQ.o.f.frozen 16;have HD:=O hd;have j8:=O q5;have j3:=O (EQ p5 s6);have t6:=O b7;have u6:=O o0;clear hd q5 p5 s6 b7 o0 j2 HG n6;go_wp2_with fail;have k1:=HQ.o.Dc (HQ.o.f.set1 16 (I 0)) (Ch.one 16 _ wr);have k2:=hT HD.o.Fx (Ch.one (b:=w.1.size) 16 (I 0) wr) (by omega);have k3:Ro (fe w) (ew w (wr.setCell ⟨w.1.size,16,none⟩ (I 0))) (wr.setCell ⟨w.1.size,16,none⟩ (I 0)) (.slice a0 M g) bl:=Ro.CQ (fun c A=>⟨A.1,by rw[(Ch.one (b:=w.1.size) 16 (I 0) wr).size];exact A.2⟩) (e9.o.keep fun c o u A J=>by have t3:=A.1;rw[(Ch.one (b:=w.1.size) 16 (I 0) wr).cell (by omega)];exact J)
    have q6:=O k1;have q8:=O k2;have q7:=O k3;clear k1 k2 k3 c16 u7 HQ HD e9 c19 p0;generalize wr.setCell _ _=W1 at *;generalize d1.set 16 _=j4 at *;obtain⟨G,hV⟩:∃G,W1.drew=G:=⟨_,z⟩;have b5:Hid (Fq w0 n0 n5 w j4 G):=O (by rw[<-hV];exact q6.o.below (FB _ W1).drew);have k6:Hid (aG (ew w G) G ({X with CY:=0}:DF) j4):=O (by rw[<-hV];exact lK q8.o (FB _ W1).drew);have i8:Hid (Ro (fe w) (ew w G) G (.slice a0 M g) bl):=O (by rw[<-hV];exact q7.o.keep fun b o u _ J=>ai (FB _ W1).drew b o u J);have l5:=O k6.o.cells;obtain⟨aa,w2,t5,-,p8⟩:=id i8.o;rw[HM.o]at t5;cases t5;obtain⟨b,V⟩:∃b,bl[i]? =some b:=⟨_,FC (by rw[HM.o];exact q2)⟩;obtain⟨g6,a8,cb,rfl,-,o6,ab,m3,u2,t2,p9⟩:=p8 i b V;subst u2
    have q3:bl.drop i=b::bl.drop (i+1):=by
     have K:i<bl.length:=by rw[HM.o];exact q2
     rw[FZ K];rw[FC K]at V;cases V;rfl
    have j7:=t6.o;rw[q3,DF.Eh,am (by rw[u6.o];decide)]at j7;have p2:hz ({X with CY:=0}:DF):=⟨j8.o.loc,FX _,j8.o.names,j8.o.ok⟩;have o8:=qz b p2;have p1:=uG b ({X with CY:=0}:DF);have l9:=fun W (hw:FM G.1.size G W) (hs:aE (fun _=>True) W ab 0 b)=>u4.o b (List.mem_of_getElem? V) (ew w G) ({X with CY:=0}:DF) j4 W ab m3 (fun c A=>FJ A.2 hw.size) (k6.o.below hw) t2 hs p2;obtain⟨⟨H,b3⟩,m6⟩:∃q,DF.CV b ({X with CY:=0}:DF)=q:=⟨_,z⟩;rw[m6]at j7 o8 p1;simp only[m6]at l9;have k0:=O l9;have k9:=O j7;have d4:=O o8;have j9:Hid (H.P.threads=X.P.threads):=O p1;obtain⟨NB,n9⟩:∃n,b.length=n:=⟨_,z⟩;rw[n9]at o6;have q4:=O n9;have r0:G.cell? ⟨g6,a8+i*1,none⟩=some (.slice ab NB m3):=o6 0 _ z
    rw[Nat.mul_one]at r0;have p3:=O r0;have j5:Hid (∀W,FM G.1.size G W->aE (fun _=>True) W ab 0 b):=O fun W hw=>p9.Do (b5.o.b.trans (hw.mono b5.o.b.size));clear p8 o6 p9 t2 V q3 j7 p2 o8 p1 l9 m6 n9 r0 q6 q8 q7 t6 j8;refine al [] (fun W=>FM G.1.size G W) m5 ?_;rw[hV];clear hV;have HS:Hid (FM G.1.size G G):=O (FB _ G);refine tl 0 84 HS 109 5 w.1.size 0 j4 du (fun W hS=> (b5.o.f.below hS).whole) l8 n8 (by rw[l5.o.1];exact aj) ?_;refine tk 1 (some 85) HS ?_;refine tk 2 (some 86) HS ?_;refine tk 3 (some 87) HS ?_;refine nm ?_;refine tf (fun W1=>W1.cell? ⟨g6,a8+i,none⟩=some (.slice ab NB m3)) 4 (some 88) HS (fun W1 h4=>ai h4 _ _ _ p3.o) ?_;refine nm ?_
    refine cj [5,9] (by kernel_rfl) ?_ (by decide);intro i hi;simp only[FQ,FO,or_false]at hi;rcases hi with rfl|rfl
    .refine⟨_,z,z,fun a2 S=>?_⟩;go_simp;rw[<-q4.o];refine(k0.o G HS.o (j5.o G HS.o)).mono ?_;rintro e Y1 ⟨⟨Q,a3,n3,a4,rfl,hd,hl⟩,V⟩;have H1:Hid (FM G.1.size G Y1):=O (HS.o.trans (V.mono HS.o.size));have p7:Hid (aG (fun c=>w.1.size+1<=c/\(c<G.1.size∨G.1.size<=c)/\c<Y1.1.size) Y1 H Q):=O (hd.tight.CQ fun c A=>⟨by rcases A.1 with h|h;exact h.1;have K:=b5.o.lt;have U:=HS.o.size;omega,by rcases A.1 with h|h;exact .inl h.2;exact .inr h,A.2⟩);have j6:Hid (H.CR=0->n3=b3.length/\aF n3 a4/\aE (fun c=>G.1.size<=c/\c<Y1.1.size) Y1 a3 0 b3):=O fun h=>⟨(hl h).1,(hl h).2.1,(hl h).2.2.bound⟩;have w1:=V.size;refine S _ _ (fun _=>H1.o) ?_;clear S a2 hd hl V;refine tk 6 (some 83) H1 ?_;refine tk 7 (some 90) H1 ?_
     refine tk 8 (some 91) H1 ?_;refine nm ?_;refine oD 9 fun a2 S=>?_;obtain⟨bA,f8⟩:∃b,Y1.1.size=b:=⟨_,z⟩;refine aw t8 s7 q0 z bA f8 ?_;intro Y2 hk V z2;have H2:Hid (FM G.1.size G Y2):=O (H1.o.trans (V.mono H1.o.size));have e6:=O (aG.below p7.o V);have c9:=O (fun h=> (⟨(j6.o h).1,(j6.o h).2.1,(j6.o h).2.2.Do V⟩:n3=b3.length/\aF n3 a4/\aE _ Y2 a3 0 b3));clear p7 j6;have j1:=O hk;have v7:G.1.size<=bA:=by rw[<-f8];exact H1.o.size
     refine S _ _ (fun _=>H2.o) ?_;clear S a2 hk V;refine nm ?_;refine oD 10 fun a2 S=>?_;refine an aj (.tmp 10) (.tmp 90) z bA Q _ z z j1.o z e6.o.cells ?_;intro W7 k7 c7;have H7:Hid (FM G.1.size G W7):=O (c7.below (by omega) H2.o);have o5:=c7.size;have i5:Hid (ak W7 bA 109 Q):=O k7;have e7:Hid (aG (ew w W7) W7 H Q):=O ((c7.df (fun e=>by have K:=e.2.1;have U:=e.2.2;omega) e6.o).CQ fun c A=>⟨A.1,by have:=A.2.2;omega⟩)
     have d3:Hid (H.CR=0->n3=b3.length/\aF n3 a4/\aE (fun c=>G.1.size<=c/\c<W7.1.size) W7 a3 0 b3):=O fun h=>⟨(c9.o h).1,(c9.o h).2.1,((c9.o h).2.2.keep (w':=W7) fun c o u A J=>by rw[c7.cell (by have K:=A.1;have U:=A.2;omega)];exact J).CQ fun c A=>⟨by have K:=A.1;omega,by have U:=A.2;omega⟩⟩;have i0:G.1.size<=bA:=by omega
     have u9:=O i0;refine S _ _ (fun _=>H7.o) ?_;clear S a2 e6 c9 j1 H2 k7 c7 i0;refine tk 11 (some 11) H7 ?_;refine nm ?_;refine dn ?_;have e8:=O (b5.o.below H7.o);have f4:Hid (Ro (fe w) (ew w G) W7 (.slice (some ⟨g6,a8,none⟩) M g) bl):=O (i8.o.keep fun b o u _ J=>ai H7.o b o u J);have e3:=O (EQ b5.o.lt H7.o.size);have a9:=O e7.o.cells;clear b5 i8 k6 H7 HS k0 j5 p3 o5;have h6:H.P.threads.length<=64/\i<H.P.threads.length:=by rw[j9.o];have:=j3.o;omega
     have a6:=O h6;clear h6;go_wp2_with (first
      | ((with_reducible refine cp 92 (.load 109 _) ?_);refine ac l8 n8 aj z (.tmp 10) z bA Q z i5 a9.o.1 ?_)
      | ((with_reducible refine cY (.store 109 (.tmp 5) _) ?_);refine af aj z (.tmp 5) (.tmp 92) z w.1.size Q _ z z e8.o.f l5.o.1 a9.o ?_;intro N k8 c8;have b8:=O (e8.o.Dc k8 c8);have d6:=O (hT e7.o c8 (by omega));have b9:Hid (H.CR=0->n3=b3.length/\aF n3 a4/\aE (fun c=>G.1.size<=c/\c<N.1.size) N a3 0 b3):=(O fun h=>⟨(d3.o h).1,(d3.o h).2.1,((d3.o h).2.2.keep (w':=N) fun c o u A J=> (by rw[c8.cell (by have K:=A.1;have U:=e3.o;omega)];exact J)).CQ fun c A=>⟨A.1,by rw[c8.size];exact A.2⟩⟩);have f9:Hid (Ro (fe w) (ew w G) N (.slice (some ⟨g6,a8,none⟩) M g) bl):=(O (f4.o.keep fun c o u A J=> (by have t3:=A.1;rw[c8.cell (by omega)];exact J)));have h8:=O (show G.1.size<=N.1.size by rw[c8.size];exact e3.o.2);clear k8 c8 e8 e7 d3 f4 i5;obtain⟨v5,v4,g7,f5⟩:=d6.o.r5;have h5:=O f5;have c5:=(b8.o.f.cell 5).trans g7;clear g7 f5)
      | ((with_reducible refine cp 96 (.call _) ?_);refine jk (E:=sP N (ew w N)) z (.const (.slice none 0 0)) (.tmp 95) 25 z N.1.size r6.o t4 q9 r3 p4 (by show 0<3;decide) q1 z z (tx h5.o) (fun _ _ _ h=>h) (by have:=a6.o;omega) (FL _) ?_;intro vT W9 hG a7;obtain⟨Y,b4,C,rfl,i4,i1,g4,j0,g9⟩:=kc hG (by have:=a6.o;omega) (by show 0<3;decide);have f2:=O (b8.o.below a7);have e5:Hid (aG (ew w N) W9 H Q):=O (d6.o.below a7);have d0:Hid (H.CR=0->n3=b3.length/\aF n3 a4/\aE (fun c=>G.1.size<=c/\c<N.1.size) W9 a3 0 b3):=(O fun h=>⟨(b9.o h).1,(b9.o h).2.1,(b9.o h).2.2.Do a7⟩);have g8:Hid (Ro (fe w) (ew w G) W9 (.slice (some ⟨g6,a8,none⟩) M g) bl):=(O (f9.o.keep fun b o u _ J=>ai a7 b o u J));have R:=O (EQ i4 (EQ i1 (EQ g4 (EQ j0 g9))));have g5:=O a7;have d8:=O b8.o.lt;clear hG a7 i4 i1 g4 j0 g9 b8 d6 b9 f9 c5 h5)
      |fail)
     have l3:=O e5.o.c7.2.2.1;have m0:=a6.o.2;have o7:(i:Int)< (H.P.threads.length:Int):=by omega
     obtain⟨V2,a5⟩:∃G,W9.drew=G:=⟨_,z⟩;have a1:Hid (Fq w0 n0 n5 w Q V2):=O (by rw[<-a5];exact f2.o.below (FB _ W9).drew);have i2:Hid (aG (ew w N) V2 H Q):=O (by rw[<-a5];exact e5.o.below (FB _ W9).drew);have i3:Hid (H.CR=0->n3=b3.length/\aF n3 a4/\aE (fun c=>G.1.size<=c/\c<N.1.size) V2 a3 0 b3):=O (by rw[<-a5];exact fun h=>⟨(d0.o h).1,(d0.o h).2.1,(d0.o h).2.2.Do (FB _ W9).drew⟩);have f1:Hid (Ro (fe w) (ew w G) V2 (.slice (some ⟨g6,a8,none⟩) M g) bl):=O (by rw[<-a5];exact g8.o.keep fun b o u _ J=>ai (FB _ W9).drew b o u J);have e4:Hid (FM N.1.size N V2):=O (by rw[<-a5];exact g5.o.drew);have f7:Hid (ak V2 Y 71 C):=O (by rw[<-a5];exact R.o.2.1.below (FB _ W9).drew);clear f2 e5 d0 g8 g5 m0
     refine al [] (fun W=>ak W w.1.size 109 Q) m5 ?_;rw[a5];clear a5;have Z:Hid (ak V2 w.1.size 109 Q):=O a1.o.f;refine tk 0 (some 97) Z ?_;refine tk 1 (some 98) Z ?_;refine tk 2 (some 99) Z ?_;refine tk 3 (some 100) Z ?_;refine nm ?_;refine tk 4 (some 101) Z ?_;refine tk 5 (some 102) Z ?_;refine tf _ 6 (some 103) Z (fun W1 h4=> (h4.cell 16).trans l3.o) ?_;refine tk 7 (some 104) Z ?_;refine nm ?_;refine tk 8 (some 105) Z ?_;refine nm ?_;refine oD 9 fun a2 S=>?_;refine aA (by kernel_rfl) (.tmp 105) (.tmp 101) z Y (i*3+2) 71 (.slice a3 n3 a4) C z z z z f7.o (by have K:=R.o.2.2.2.1;have U:=a6.o;have h3:H.P.threads.length*3<=C.length:=K;omega) ?_;intro X1 kx cx;have KX:=O (EQ kx cx);clear kx cx
     have b6:=O (KX.o.2.CV (by have:=R.o.1;have:=d8.o;omega) a1.o.f);refine S _ _ (fun _=>b6.o) ?_;clear S a2;refine tk 10 (some 106) b6 ?_;refine tk 11 (some 107) b6 ?_;refine nm ?_;refine oD 12 fun a2 S=>?_;refine aA (by kernel_rfl) (.tmp 107) (.tmp 103) z Y (i*3+1) 71 (I H.CY) (C.set (i*3+2) (.slice a3 n3 a4)) z z z z KX.o.1 (by have K:=R.o.2.2.2.1;have U:=a6.o;have h3:H.P.threads.length*3<=C.length:=K;rw[Hs];omega) ?_;intro X2 ky cy;have KY:=O (EQ ky cy);clear ky cy;have d9:=O (KY.o.2.CV (by have:=R.o.1;have:=d8.o;omega) b6.o);refine S _ _ (fun _=>d9.o) ?_;clear S a2;simp only[Act.put];refine dn ?_;have e0:w.1.size+1<=Y:=by have:=R.o.1;have:=d8.o;omega
     have hX:∀c,c≠Y->X2.1[c]? =V2.1[c]? :=fun c A=>by obtain⟨⟨-,o1,u8,e1⟩,-,o2,t9,e2⟩:=EQ KX.o KY.o;rw[e2,au A,e1,au A]
     have HX:=O hX;have h9:Hid (Fq w0 n0 n5 w Q X2):=O (by have hh:=a1.o.h;exact⟨a1.o.o,a1.o.h,KY.o.2.below (by omega) (KX.o.2.below (by omega) a1.o.b),KY.o.2.CV (by omega) (KX.o.2.CV (by omega) a1.o.p),KY.o.2.CV (by omega) (KX.o.2.CV (by omega) a1.o.q),d9.o⟩);have i6:aG (ew w N) X2 H Q:=i2.o.keep fun c o u A J=>by have K:=A.2;have U:=R.o.1;rw[<-J];simp[FI,HX.o c (by omega)]
     have f3:Ro (fe w) (ew w G) X2 (.slice (some ⟨g6,a8,none⟩) M g) bl:=f1.o.keep fun c o u A J=>by have K:=A.2;have U:=R.o.1;have h3:=h8.o;rw[<-J];simp[FI,HX.o c (by omega)]
     have h7:H.CR=0->Ro gh (w.1.size+1<=·) X2 (.slice (some ⟨Y,0,none⟩) H.P.threads.length b4) (H.P.threads.set i ⟨(H.P.threads.getD i default).name,H.CY,b3⟩):=fun h0=>by
      obtain⟨g1,g2,g3⟩:=i3.o h0;have f6:=KY.o.1;rw[g1]at f6 g2;refine oe (w:=N) z e0 R.o.2.2.1 (fun j x hj=>?_) R.o.2.2.2.1 a6.o.2 (a:=a3) (c:=a4) ⟨g2,?_⟩ f6 fun c A d5=>?_
      .obtain⟨cs,hL,d5⟩:=R.o.2.2.2.2 j x hj;have l7:Th.L (ew w N) N cs x:=hL;have u0:=R.o.1;exact⟨cs,gh.CQ (fun c A=>⟨⟨A.1,by have:=A.2;omega⟩,A.2⟩) l7,d5⟩
      .refine aE.CQ (fun c A=>?_) (g3.keep (w':=X2) fun c o u A J=>?_)
       .have K:=A.1;have U:=e3.o.1;show w.1.size+1<=c;omega
       .have K:=A.2;have U:=R.o.1;rw[<-J];simp[FI,HX.o c (by omega)]
      .rw[HX.o c A,e4.o.block c d5]
     have f0:N.1.size<=X2.1.size:=by rw[KY.o.2.size,KX.o.2.size];exact e4.o.size
     have d2:=O i6;have m9:=O f3;have m2:=O h7;have u1:=O e0;have l4:=O f0;have i7:=Gi ((i:Int)+1) (by have:=r2.o trivial;omega);have o9:=O i7;clear hX e0 i6 f3 h7 f0 i7 i2 f1 i3 a1 Z b6 d9 KX KY f7 e4 o7 R;go_wp2_with (first
      | ((with_reducible refine cY (.store 25 _ _) ?_);refine az (by kernel_rfl) z (.tmp 110) (.tmp 108) z w.1.size 5 109 (.slice (some ⟨Y,0,none⟩) H.P.threads.length b4) Q z z z z h9.o.f (by rw[a9.o.1];decide) ?_;intro X3 kz cz;have KZ:=O (EQ kz cz);clear kz cz)
      |fail)
     go_roundg (M- (i+1));case measure=>omega
     case rel=>
      have n7:(Q.set 5 (.slice (some ⟨Y,0,none⟩) H.P.threads.length b4)).length=20/\∀v∈Q.set 5 (.slice (some ⟨Y,0,none⟩) H.P.threads.length b4),v.oneCell'=true:=⟨by rw[Hs];exact a9.o.1,fun v hv=>by
       rcases Iw hv with h|h
       .exact a9.o.2 v h
       .rw[h];rfl⟩
      refine⟨i+1,Q.set 5 (.slice (some ⟨Y,0,none⟩) H.P.threads.length b4),H.CR,by omega,z,congrArg (Gr .i64) o9.o,O ⟨O (h9.o.Dc KZ.o.1 KZ.o.2),O n7,?_,fun h0=>?_,fun h0=>?_⟩,O (Ro.CQ (fun c A=>⟨A.1,?_⟩) (m9.o.keep fun c o u A J=>?_))⟩
      .rw[Ge (by decide)];exact d2.o.c19
      .have hk:=er (D:=H.Ej i b3) h0 (i+1) (bl.drop (i+1));have hF:=k9.o;rw[hk]at hF;rw[Ge (by decide),Ge (by decide),<-hF];exact⟨z,d2.o.c17,d2.o.c18⟩
      .refine⟨H.Ej i b3,h0,?_,⟨d4.o.loc,d4.o.CY,d4.o.names,d4.o.ok⟩,?_,?_,k9.o⟩
       .refine aG.tight (ok:=fun c=>w.1.size+1<=c) (aG.s5 (aG.CQ (fun c A=>A.1) (d2.o.keep (w':=X3) fun c o u A J=>?_)) ((m2.o h0).keep fun c o u A J=>?_))
        .have K:=A.1;rw[KZ.o.2.cell (by omega)];exact J
        .have K:w.1.size+1<=c:=A;rw[KZ.o.2.cell (by omega)];exact J
       .show M<=(H.P.threads.set i _).length;rw[Hs,j9.o];exact j3.o.1
       .show (H.P.threads.set i _).length<=64;rw[Hs];exact a6.o.1
      .have K:=A.2;have U:=h8.o;have h3:=l4.o;rw[KZ.o.2.size];omega
      .have K:=A.1;rw[KZ.o.2.cell (by omega)];exact J
    .refine⟨_,z,z,fun a2 S=>?_⟩;obtain⟨bA,f8⟩:∃b,G.1.size=b:=⟨_,z⟩;refine aw t8 s7 q0 z bA f8 ?_;intro Y1 hk V z1;have H1:Hid (FM G.1.size G Y1):=O (HS.o.trans (V.mono HS.o.size));have t1:=O hk;have v6:G.1.size<=bA:=by rw[<-f8];exact HS.o.size
     refine S _ _ (fun _=>H1.o) ?_;clear S a2 hk V;refine nm ?_;refine oD 5 fun a2 S=>?_;go_simp;rw[<-q4.o];refine(k0.o Y1 H1.o (j5.o Y1 H1.o)).mono ?_;rintro e Y2 ⟨⟨Q,a3,n3,a4,rfl,hd,hl⟩,V⟩;have H2:Hid (FM G.1.size G Y2):=O (H1.o.trans (V.mono H1.o.size));have e6:Hid (aG (fun c=>w.1.size+1<=c/\(c<G.1.size∨Y1.1.size<=c)/\c<Y2.1.size) Y2 H Q):=O (hd.tight.CQ fun c A=>⟨by rcases A.1 with h|h;exact h.1;have K:=b5.o.lt;have U:=H1.o.size;omega,by rcases A.1 with h|h;exact .inl h.2;exact .inr h,A.2⟩);have c9:Hid (H.CR=0->n3=b3.length/\aF n3 a4/\aE (fun c=>Y1.1.size<=c/\c<Y2.1.size) Y2 a3 0 b3):=O fun h=>⟨(hl h).1,(hl h).2.1,(hl h).2.2.bound⟩;have v8:=V.size;have j1:=O (t1.o.below V);clear t1
     refine S _ _ (fun _=>H2.o) ?_;clear S a2 hd hl V;refine tk 6 (some 83) H2 ?_;refine tk 7 (some 90) H2 ?_;refine tk 8 (some 91) H2 ?_;refine nm ?_;refine oD 10 fun a2 S=>?_;refine an aj (.tmp 10) (.tmp 90) z bA Q _ z z j1.o z e6.o.cells ?_;intro W7 k7 c7;have H7:Hid (FM G.1.size G W7):=O (c7.below (by omega) H2.o);have o5:=c7.size;have i5:Hid (ak W7 bA 109 Q):=O k7;have e7:Hid (aG (ew w W7) W7 H Q):=O ((c7.df (fun e=>by have K:=e.2.1;have U:=e.2.2;omega) e6.o).CQ fun c A=>⟨A.1,by have:=A.2.2;omega⟩)
     have d3:Hid (H.CR=0->n3=b3.length/\aF n3 a4/\aE (fun c=>G.1.size<=c/\c<W7.1.size) W7 a3 0 b3):=O fun h=>⟨(c9.o h).1,(c9.o h).2.1,((c9.o h).2.2.keep (w':=W7) fun c o u A J=>by rw[c7.cell (by have K:=A.1;have U:=A.2;omega)];exact J).CQ fun c A=>⟨by have K:=A.1;omega,by have U:=A.2;omega⟩⟩;have i0:G.1.size<=bA:=by omega
     have u9:=O i0;refine S _ _ (fun _=>H7.o) ?_;clear S a2 e6 c9 j1 H2 k7 c7 i0;refine tk 11 (some 11) H7 ?_;refine nm ?_;refine dn ?_;have e8:=O (b5.o.below H7.o);have f4:Hid (Ro (fe w) (ew w G) W7 (.slice (some ⟨g6,a8,none⟩) M g) bl):=O (i8.o.keep fun b o u _ J=>ai H7.o b o u J);have e3:=O (EQ b5.o.lt H7.o.size);have a9:=O e7.o.cells;clear b5 i8 k6 H7 HS k0 j5 p3 o5;have h6:H.P.threads.length<=64/\i<H.P.threads.length:=by rw[j9.o];have:=j3.o;omega
     have a6:=O h6;clear h6;go_wp2_with (first
      | ((with_reducible refine cp 92 (.load 109 _) ?_);refine ac l8 n8 aj z (.tmp 10) z bA Q z i5 a9.o.1 ?_)
      | ((with_reducible refine cY (.store 109 (.tmp 5) _) ?_);refine af aj z (.tmp 5) (.tmp 92) z w.1.size Q _ z z e8.o.f l5.o.1 a9.o ?_;intro N k8 c8;have b8:=O (e8.o.Dc k8 c8);have d6:=O (hT e7.o c8 (by omega));have b9:Hid (H.CR=0->n3=b3.length/\aF n3 a4/\aE (fun c=>G.1.size<=c/\c<N.1.size) N a3 0 b3):=(O fun h=>⟨(d3.o h).1,(d3.o h).2.1,((d3.o h).2.2.keep (w':=N) fun c o u A J=> (by rw[c8.cell (by have K:=A.1;have U:=e3.o;omega)];exact J)).CQ fun c A=>⟨A.1,by rw[c8.size];exact A.2⟩⟩);have f9:Hid (Ro (fe w) (ew w G) N (.slice (some ⟨g6,a8,none⟩) M g) bl):=(O (f4.o.keep fun c o u A J=> (by have t3:=A.1;rw[c8.cell (by omega)];exact J)));have h8:=O (show G.1.size<=N.1.size by rw[c8.size];exact e3.o.2);clear k8 c8 e8 e7 d3 f4 i5;obtain⟨v5,v4,g7,f5⟩:=d6.o.r5;have h5:=O f5;have c5:=(b8.o.f.cell 5).trans g7;clear g7 f5)
      | ((with_reducible refine cp 96 (.call _) ?_);refine jk (E:=sP N (ew w N)) z (.const (.slice none 0 0)) (.tmp 95) 25 z N.1.size r6.o t4 q9 r3 p4 (by show 0<3;decide) q1 z z (tx h5.o) (fun _ _ _ h=>h) (by have:=a6.o;omega) (FL _) ?_;intro vT W9 hG a7;obtain⟨Y,b4,C,rfl,i4,i1,g4,j0,g9⟩:=kc hG (by have:=a6.o;omega) (by show 0<3;decide);have f2:=O (b8.o.below a7);have e5:Hid (aG (ew w N) W9 H Q):=O (d6.o.below a7);have d0:Hid (H.CR=0->n3=b3.length/\aF n3 a4/\aE (fun c=>G.1.size<=c/\c<N.1.size) W9 a3 0 b3):=(O fun h=>⟨(b9.o h).1,(b9.o h).2.1,(b9.o h).2.2.Do a7⟩);have g8:Hid (Ro (fe w) (ew w G) W9 (.slice (some ⟨g6,a8,none⟩) M g) bl):=(O (f9.o.keep fun b o u _ J=>ai a7 b o u J));have R:=O (EQ i4 (EQ i1 (EQ g4 (EQ j0 g9))));have g5:=O a7;have d8:=O b8.o.lt;clear hG a7 i4 i1 g4 j0 g9 b8 d6 b9 f9 c5 h5)
      |fail)
     have l3:=O e5.o.c7.2.2.1;have m0:=a6.o.2;have o7:(i:Int)< (H.P.threads.length:Int):=by omega
     obtain⟨V2,a5⟩:∃G,W9.drew=G:=⟨_,z⟩;have a1:Hid (Fq w0 n0 n5 w Q V2):=O (by rw[<-a5];exact f2.o.below (FB _ W9).drew);have i2:Hid (aG (ew w N) V2 H Q):=O (by rw[<-a5];exact e5.o.below (FB _ W9).drew);have i3:Hid (H.CR=0->n3=b3.length/\aF n3 a4/\aE (fun c=>G.1.size<=c/\c<N.1.size) V2 a3 0 b3):=O (by rw[<-a5];exact fun h=>⟨(d0.o h).1,(d0.o h).2.1,(d0.o h).2.2.Do (FB _ W9).drew⟩);have f1:Hid (Ro (fe w) (ew w G) V2 (.slice (some ⟨g6,a8,none⟩) M g) bl):=O (by rw[<-a5];exact g8.o.keep fun b o u _ J=>ai (FB _ W9).drew b o u J);have e4:Hid (FM N.1.size N V2):=O (by rw[<-a5];exact g5.o.drew);have f7:Hid (ak V2 Y 71 C):=O (by rw[<-a5];exact R.o.2.1.below (FB _ W9).drew);clear f2 e5 d0 g8 g5 m0
     refine al [] (fun W=>ak W w.1.size 109 Q) m5 ?_;rw[a5];clear a5;have Z:Hid (ak V2 w.1.size 109 Q):=O a1.o.f;refine tk 0 (some 97) Z ?_;refine tk 1 (some 98) Z ?_;refine tk 2 (some 99) Z ?_;refine tk 3 (some 100) Z ?_;refine nm ?_;refine tk 4 (some 101) Z ?_;refine tk 5 (some 102) Z ?_;refine tf _ 6 (some 103) Z (fun W1 h4=> (h4.cell 16).trans l3.o) ?_;refine tk 7 (some 104) Z ?_;refine nm ?_;refine tk 8 (some 105) Z ?_;refine nm ?_;refine oD 9 fun a2 S=>?_;refine aA (by kernel_rfl) (.tmp 105) (.tmp 101) z Y (i*3+2) 71 (.slice a3 n3 a4) C z z z z f7.o (by have K:=R.o.2.2.2.1;have U:=a6.o;have h3:H.P.threads.length*3<=C.length:=K;omega) ?_;intro X1 kx cx;have KX:=O (EQ kx cx);clear kx cx
     have b6:=O (KX.o.2.CV (by have:=R.o.1;have:=d8.o;omega) a1.o.f);refine S _ _ (fun _=>b6.o) ?_;clear S a2;refine tk 10 (some 106) b6 ?_;refine tk 11 (some 107) b6 ?_;refine nm ?_;refine oD 12 fun a2 S=>?_;refine aA (by kernel_rfl) (.tmp 107) (.tmp 103) z Y (i*3+1) 71 (I H.CY) (C.set (i*3+2) (.slice a3 n3 a4)) z z z z KX.o.1 (by have K:=R.o.2.2.2.1;have U:=a6.o;have h3:H.P.threads.length*3<=C.length:=K;rw[Hs];omega) ?_;intro X2 ky cy;have KY:=O (EQ ky cy);clear ky cy;have d9:=O (KY.o.2.CV (by have:=R.o.1;have:=d8.o;omega) b6.o);refine S _ _ (fun _=>d9.o) ?_;clear S a2;simp only[Act.put];refine dn ?_;have e0:w.1.size+1<=Y:=by have:=R.o.1;have:=d8.o;omega
     have hX:∀c,c≠Y->X2.1[c]? =V2.1[c]? :=fun c A=>by obtain⟨⟨-,o1,u8,e1⟩,-,o2,t9,e2⟩:=EQ KX.o KY.o;rw[e2,au A,e1,au A]
     have HX:=O hX;have h9:Hid (Fq w0 n0 n5 w Q X2):=O (by have hh:=a1.o.h;exact⟨a1.o.o,a1.o.h,KY.o.2.below (by omega) (KX.o.2.below (by omega) a1.o.b),KY.o.2.CV (by omega) (KX.o.2.CV (by omega) a1.o.p),KY.o.2.CV (by omega) (KX.o.2.CV (by omega) a1.o.q),d9.o⟩);have i6:aG (ew w N) X2 H Q:=i2.o.keep fun c o u A J=>by have K:=A.2;have U:=R.o.1;rw[<-J];simp[FI,HX.o c (by omega)]
     have f3:Ro (fe w) (ew w G) X2 (.slice (some ⟨g6,a8,none⟩) M g) bl:=f1.o.keep fun c o u A J=>by have K:=A.2;have U:=R.o.1;have h3:=h8.o;rw[<-J];simp[FI,HX.o c (by omega)]
     have h7:H.CR=0->Ro gh (w.1.size+1<=·) X2 (.slice (some ⟨Y,0,none⟩) H.P.threads.length b4) (H.P.threads.set i ⟨(H.P.threads.getD i default).name,H.CY,b3⟩):=fun h0=>by
      obtain⟨g1,g2,g3⟩:=i3.o h0;have f6:=KY.o.1;rw[g1]at f6 g2;refine oe (w:=N) z e0 R.o.2.2.1 (fun j x hj=>?_) R.o.2.2.2.1 a6.o.2 (a:=a3) (c:=a4) ⟨g2,?_⟩ f6 fun c A d5=>?_
      .obtain⟨cs,hL,d5⟩:=R.o.2.2.2.2 j x hj;have l7:Th.L (ew w N) N cs x:=hL;have u0:=R.o.1;exact⟨cs,gh.CQ (fun c A=>⟨⟨A.1,by have:=A.2;omega⟩,A.2⟩) l7,d5⟩
      .refine aE.CQ (fun c A=>?_) (g3.keep (w':=X2) fun c o u A J=>?_)
       .have K:=A.1;have U:=e3.o.1;show w.1.size+1<=c;omega
       .have K:=A.2;have U:=R.o.1;rw[<-J];simp[FI,HX.o c (by omega)]
      .rw[HX.o c A,e4.o.block c d5]
     have f0:N.1.size<=X2.1.size:=by rw[KY.o.2.size,KX.o.2.size];exact e4.o.size
     have d2:=O i6;have m9:=O f3;have m2:=O h7;have u1:=O e0;have l4:=O f0;have i7:=Gi ((i:Int)+1) (by have:=r2.o trivial;omega);have o9:=O i7;clear hX e0 i6 f3 h7 f0 i7 i2 f1 i3 a1 Z b6 d9 KX KY f7 e4 o7 R;go_wp2_with (first
      | ((with_reducible refine cY (.store 25 _ _) ?_);refine az (by kernel_rfl) z (.tmp 110) (.tmp 108) z w.1.size 5 109 (.slice (some ⟨Y,0,none⟩) H.P.threads.length b4) Q z z z z h9.o.f (by rw[a9.o.1];decide) ?_;intro X3 kz cz;have KZ:=O (EQ kz cz);clear kz cz)
      |fail)
     go_roundg (M- (i+1));case measure=>omega
     case rel=>
      have n7:(Q.set 5 (.slice (some (ad Y 0)) H.P.threads.length b4)).length=20/\∀v∈Q.set 5 (.slice (some (ad Y 0)) H.P.threads.length b4),v.oneCell'=true:=⟨by rw[Hs];exact a9.1,fun v hv=>by
       rcases Iw hv with h|h
       .exact a9.2 v h
       .rw[h];rfl⟩
      refine⟨i+1,Q.set 5 (.slice (some (ad Y 0)) H.P.threads.length b4),H.CR,by omega,z,congrArg (Gr .i64) o9,O ⟨O (h9.Dc KZ.1 KZ.2),O n7,?_,fun h0=>?_,fun h0=>?_⟩,O (Ro.CQ (fun c A=>⟨A.1,?_⟩) (m9.keep fun c o u A J=>?_))⟩
      .rw[Ge (by decide)];exact d2.c19
      .have hk:=er (D:=H.Ej i b3) h0 (i+1) (bl.drop (i+1));have hF:=k9.o;rw[hk]at hF;rw[Ge (by decide),Ge (by decide),<-hF];exact⟨z,d2.c17,d2.c18⟩
      .refine⟨H.Ej i b3,h0,?_,⟨d4.loc,d4.CY,d4.names,d4.ok⟩,?_,?_,k9⟩
       .refine aG.tight (ok:=fun c=>w.1.size+1<=c) (aG.s5 (aG.CQ (fun c A=>A.1) (d2.keep (w':=X3) fun c o u A J=>?_)) ((m2 h0).keep fun c o u A J=>?_))
        .have K:=A.1;rw[KZ.o.2.cell (by omega)];exact J
        .have K:w.1.size+1<=c:=A;rw[KZ.o.2.cell (by omega)];exact J
       .show M<=(H.P.threads.set i _).length;rw[Hs,j9.o];exact j3.1
       .show (H.P.threads.set i _).length<=64;rw[Hs];exact a6.1
      .have K:=A.2;have U:=h8.o;have h3:=l4.o;rw[KZ.o.2.size];omega
      .have K:=A.1;rw[KZ.o.2.cell (by omega)];exact J
   .go_wp2;apply p6;let ⟨K,U,h3⟩:=n6 d7
    exact mc HQ HL (O ⟨U,h3,by rw[K];exact p0⟩) (O fun h=>absurd (K.symm.trans h) d7) m4
  .obtain rfl:i=M:=by omega
   have u5:¬ (i:Int)< (i:Int):=by omega
   go_wp2;apply p6;by_cases d7:fl=0
   .subst d7;obtain⟨X,o0,hd,-,-,-,b7⟩:=HG z;rw[<-HM.o,Hn]at b7;have u3:X=F:=b7;subst u3;exact mc HQ HL (O ⟨hd.c17,hd.c18,hd.c19⟩) (O fun _=>hd) m4
   .let ⟨K,U,h3⟩:=n6 d7
    exact mc HQ HL (O ⟨U,h3,by rw[K];exact p0⟩) (O fun h=>absurd (K.symm.trans h) d7) m4
theorem lH:∀ (bl:List (List St)) (i:Nat) (E:DF),(DF.Eh i bl E).names=E.names
 | [],_,_=>rfl
 |b::r,i,E=>by
  rw[DF.Eh]
  split
  .rfl
  .rw[lH r]
   rfl
theorem mP(h:(D.Dj).CR=0):D.CR=0/\D.Dj=D/\∃i,D.at fh=some i/\i<D.names.length:=by
 unfold DF.Dj at h ⊢;split at h
 .exact absurd h (iN (by decide) _)
 .rename_i g;rw[am g];refine⟨h,z,?_⟩;cases j:D.at fh with
  |none=>
   exfalso;apply g;refine⟨h,?_⟩;unfold DF.Ev;rw[j]
  |some i=>exact⟨i,z,me j⟩
theorem nQ{cs:List Fr}{bl:List (List St)}(HQ:Hid (Fq w0 n0 n5 w cs W))(HD:Hid (aG (ew w W) W D cs))(hC:D.CR=0->sO D/\bl.length=D.P.threads.length)(d8:Hid (Ro (fe w) (ew w W) W (.slice a0 bl.length j) bl))(a5:Hid (∀b∈bl,qR b))(d9:bl.length<=1000)(hU:l2.length=123:=by rfl):
  FR prog (Jp 5 (f15.body.getD .skip)) (Gb prog f15 (lh w0 (rg (DF.Eh 0 bl D.Dj) (D.at fh)))) ⟨(v0::v1::Pt n0::Pt n5::v2::Pt w.1.size:: .slice a0 bl.length j::l2).toArray,[]⟩ W:=by
 revert l2;apply aN;iterate 123 intro _
 change FR _ _ _ _ _;obtain⟨du,a9,b6⟩:=cd;have b9:D.Dj.CR=0->hz D.Dj:=fun h=>by obtain⟨S,R,-⟩:=mP h;rw[R];exact(hC S).1.iv
 have F:D.Dj.CR=0->bl.length<=D.Dj.P.threads.length/\D.Dj.P.threads.length<=64:=fun h=>by obtain⟨S,R,-⟩:=mP h;rw[R];have h3:=(hC S).1.vi.lens;have h4:=(hC S).2;omega
 have d0:(DF.Eh 0 bl D.Dj).CR=0->∃i,D.at fh=some i/\i< (DF.Eh 0 bl D.Dj).names.length:=fun h=>by
  have h0:D.Dj.CR=0:=by
   by_cases e:D.Dj.CR=0
   .exact e
   .rw[er e]at h;exact absurd h e
  obtain⟨S,R,i,h3,h4⟩:=mP h0;exact⟨i,h3,by rw[lH,R];exact h4⟩
 obtain⟨E,hE⟩:∃E,D.Dj=E:=⟨_,z⟩;rw[hE]at b9 F d0 ⊢;have G:=O (EQ b9 (EQ F d0));have a8:=O hE;have a4:=O fun _:True=>d9;clear b9 F d0 hE hC d9;have Z:=O HD.o.cells;have b5:=jA D fh (ew w W) cs W HD.o;obtain⟨oi,b8⟩:∃o,D.at fh=o:=⟨_,z⟩;rw[b8]at b5 G ⊢;have a3:=O b8;clear b8;conv in (Jp _ _)=>whnf
 refine wk fun KK N=>?_;go_wp2_with (first| ((with_reducible refine gU _ (.load 109 _) ?_);refine ac a9 b6 aj z (.tmp 5) z w.1.size cs z (O HQ.o.f) Z.o.1 ?_)|fail);refine Calls.mono (show Jq prog 40 #[.agg cs.toArray,.string fh] W _ from b5) ?_;clear b5;rintro e Q ⟨rfl,C⟩;have H:=O (HQ.o.below C);have M:=O (lK HD.o C);have V:Hid (Ro (fe w) (ew w Q) Q (.slice a0 bl.length j) bl):=O (Ro.CQ (fun c A=>⟨A.1,FJ A.2 C.size⟩) (d8.o.keep fun c o u _ K=>ai C c o u K));clear C HQ HD d8;go_wp2_with fail;refine N.o _ _ ?_;clear N KK;refine wk fun KK N=>?_;obtain⟨fl,a1⟩:∃x,D.CR=x:=⟨_,z⟩;have c19:=(H.o.f.cell 19).trans M.o.c19;rw[a1]at c19;by_cases h0:fl=0;rotate_left
 .have F:D=E:=by rw[<-a8.o];unfold DF.Dj;rw[am (by rw[a1];exact fun h=>h0 h.1)]
  clear a1;subst F;go_wp2_with fail;refine N.o _ _ ?_;exact mb H M G.o.1 G.o.2.1 V a5 (a4.o trivial) G.o.2.2
 subst h0;have e0:D.Ev=true->D.DA 133 (0,0)=E:=fun h=>by rw[<-a8.o];unfold DF.Dj;rw[aD ⟨a1,h⟩]
 have d7:¬D.Ev=true->D=E:=fun h=>by rw[<-a8.o];unfold DF.Dj;rw[am (fun R=>h R.2)]
 have d6:=O e0;have e6:=O d7;clear e0 d7 a1;rcases oi with _|i
 .have a2:D.Ev=true:=by unfold DF.Ev;rw[a3.o]
  simp only[qN];have F:=d6.o a2;have U:=bP D (ew w Q) 133 (0,0) cs Q M.o;rw[F]at U;clear F;go_wp2_with (first| ((with_reducible refine cp 68 (.load 109 _) ?_);refine ac a9 b6 aj z (.tmp 5) z w.1.size cs z (O H.o.f) Z.o.1 ?_)|fail);refine U.mono ?_;clear U;rintro e J ⟨⟨ds,rfl,hd⟩,C⟩;have X:=O (H.o.below C);have c8:Hid (aG (ew w J) J E ds):=O (hd.CQ fun c A=>⟨A.1,FJ A.2 C.size⟩);have a6:=O hd.cells;have b4:Hid (Ro (fe w) (ew w J) J (.slice a0 bl.length j) bl):=O (Ro.CQ (fun c A=>⟨A.1,FJ A.2 C.size⟩) (V.o.keep fun c o u _ K=>ai C c o u K));clear hd C H M V
  go_wp2_with (first| ((with_reducible refine cY (.store 109 _ _) ?_);refine af aj z (.tmp 5) (.tmp 70) z w.1.size ds _ z z X.o.f Z.o.1 a6.o ?_;intro Y k3 c3;have d1:=O (X.o.Dc k3 c3);have b7:=O (hT c8.o c3 (by omega));have c9:Hid (Ro (fe w) (ew w Y) Y (.slice a0 bl.length j) bl):=(O (Ro.CQ (fun c A=>⟨A.1,by rw[c3.size];exact A.2⟩) (b4.o.keep fun c o u A K=> (by have S:=A.1;rw[c3.cell (by omega)];exact K))));clear k3 c3)|fail);refine N.o _ _ ?_;exact mb d1 b7 G.o.1 G.o.2.1 c9 a5 (a4.o trivial) G.o.2.2
 have e8:i<D.names.length:=me a3.o;obtain⟨va,f0,e1,e4⟩:=M.o.Ff;have c13:=(H.o.f.cell 13).trans e1;obtain⟨x,hx⟩:∃x,D.names[i]? =some x:=⟨_,FC e8⟩;have d5:D.names.getD i hA=x:=by rw[FD,hx];rfl
 obtain⟨a',f1,e7,-,d3⟩:=e4;cases e7;obtain⟨g,e3,xs,rfl,-,a7,d4⟩:=d3 i x hx;have d2:xs=x.cells:=d4;rw[d2]at a7;have x1:Q.cell? ⟨g,e3+i*3+1,none⟩=some (.int .i64 (x.kind:Int)):=a7 1 _ z;have f2:(0:Int)<=(i:Int):=by omega
 have f3:(i:Int)< (D.names.length:Int):=by omega
 have e9:¬ (i:Int)<0:=by omega
 have e2:=O d5;clear d3 a7 d4 d2 e1 hx d5;simp only[qN];by_cases hk:x.kind=6
 .have a2:¬D.Ev=true:=by unfold DF.Ev;rw[a3.o];show ¬decide _=true;rw[e2.o,decide_eq_true_eq];exact fun h=>h hk
  have e5:(x.kind:Int)=6:=by omega
  have F:=e6.o a2;subst F;go_wp2_with fail;refine N.o _ _ ?_;exact mb H M G.o.1 G.o.2.1 V a5 (a4.o trivial) G.o.2.2
 .have a2:D.Ev=true:=by unfold DF.Ev;rw[a3.o];show decide _=true;rw[e2.o,decide_eq_true_eq];exact hk
  have e5:¬ (x.kind:Int)=6:=by omega
  have F:=d6.o a2;have U:=bP D (ew w Q) 133 (0,0) cs Q M.o;rw[F]at U;clear F;go_wp2_with (first| ((with_reducible refine cp 68 (.load 109 _) ?_);refine ac a9 b6 aj z (.tmp 5) z w.1.size cs z (O H.o.f) Z.o.1 ?_)|fail);refine U.mono ?_;clear U;rintro e J ⟨⟨ds,rfl,hd⟩,C⟩;have X:=O (H.o.below C);have c8:Hid (aG (ew w J) J E ds):=O (hd.CQ fun c A=>⟨A.1,FJ A.2 C.size⟩);have a6:=O hd.cells;have b4:Hid (Ro (fe w) (ew w J) J (.slice a0 bl.length j) bl):=O (Ro.CQ (fun c A=>⟨A.1,FJ A.2 C.size⟩) (V.o.keep fun c o u _ K=>ai C c o u K));clear hd C H M V
  go_wp2_with (first| ((with_reducible refine cY (.store 109 _ _) ?_);refine af aj z (.tmp 5) (.tmp 70) z w.1.size ds _ z z X.o.f Z.o.1 a6.o ?_;intro Y k3 c3;have d1:=O (X.o.Dc k3 c3);have b7:=O (hT c8.o c3 (by omega));have c9:Hid (Ro (fe w) (ew w Y) Y (.slice a0 bl.length j) bl):=(O (Ro.CQ (fun c A=>⟨A.1,by rw[c3.size];exact A.2⟩) (b4.o.keep fun c o u A K=> (by have S:=A.1;rw[c3.cell (by omega)];exact K))));clear k3 c3)|fail);refine N.o _ _ ?_;exact mb d1 b7 G.o.1 G.o.2.1 c9 a5 (a4.o trivial) G.o.2.2
theorem kZ{b:List St}:∀ {l:List De} {D:DF},b∈DF.DN l D->∃d∈l,d.kind=6/\b=d.body
 | [],_,h=>by cases h
 |d::r,D,h=>by
  rw[DF.DN]at h
  split at h
  .cases h
  .split at h
   .rename_i w
    rcases FQ.1 h with h|h
    .exact⟨d,by simp,w,h⟩
    .let ⟨e,g,j⟩:=kZ h
     exact⟨e,by simp[g],j⟩
   .let ⟨e,g,j⟩:=kZ h
    exact⟨e,by simp[g],j⟩
theorem Ro.tight{w:Type}{E:El w}{ok:Nat->Prop}{l:List w}(N:0<E.sz):Ro E ok W v l->Ro E (fun c=>ok c/\c<W.1.size) W v l:=fun ⟨a,cap,F,K,C⟩=>⟨a,cap,F,K,fun j x H=>by
  let ⟨b,M,cs,J,D,g,A⟩:=C j x H
  have Q:=(E.cells A).1;have G:=g 0 cs[0] (FC (by omega));exact⟨b,M,cs,J,⟨D,FF W _ G⟩,g,E.bound A⟩⟩
theorem xW:(prog.info? 44).map (fun i=> (i.zero.map (fun z=>z.cells.size),i.size,decide (i.bytes<=1024)))=some (some 1,1,true):=by kernel_rfl
def zK(w W:Fk)(v:Fr)(c:Nat):Prop:=ew w W c/\v.ownBlock≠some c
theorem rQ(l:List De):fg l=rg (DF.Eh 0 (DF.DN l ii) (DF.Du l ii).Dj) ((DF.Du l ii).at fh):=rfl
theorem zG{l:List De}{cap:Nat}{nmf:ByteArray->Bool}(J:Hid (Fq w0 n0 n5 w nx W))(M:Hid (aG (ew w W) W ii nx))(b6:aF l.length cap)(e9:cQ (fun _=>True) w a l)(hR:∀d∈l,fI nmf d=true)(hU:l2.length=123:=by rfl):
  FR prog (Jp 4 (f15.body.getD .skip)) (Gb prog f15 (lh w0 (fg l))) ⟨(.slice a l.length cap::v0::Pt n0::Pt n5::v1::Pt w.1.size:: .slice none 0 0::l2).toArray,[]⟩ W:=by
 revert l2;apply aN;iterate 123 intro _
 change FR _ _ _ _ _;let ⟨du,i6,j3⟩:=cd
 let ⟨k0,j6,j4⟩:=ek
 let ⟨iT,zT,g8,g2,g4,e3,i8⟩:=bJ xW
 have g1:Hid (prog.underlying 110=some (.slice 44)):=O (by kernel_rfl);have j1:prog.follows .mixedOrders=true:=by kernel_rfl
 have d4:∀b∈DF.DN l ii,qR b:=fun b Q=>by obtain⟨d,hd,U,rfl⟩:=kZ Q;exact sq _ (gK _ ((qy (hR d hd)).2.2.2 U))
 rw[rQ];obtain⟨Df,d7⟩:=eX (DF.Du l ii);obtain⟨Bf,a9⟩:=eX (DF.DN l ii);rw[d7,a9];rw[a9]at d4;have g3:=O d4;have j5:=O d7;have k8:=O a9;clear d7 a9;obtain⟨F,hN⟩:=eX l.length;rw[hN]at b6 ⊢;have HN:=O hN;have j0:=O e9;have HR:=O hR;have f2:=O fun _:True=>b6;clear hN e9 hR d4 b6;conv in (Jp _ _)=>whnf
 refine wk fun KK e5=>?_;go_wp2;go_loopg [6,7] F (fun x ov iv wr=>∃ (i:Nat) (E:DF) (N:List Fr) (C:List (List St)),i<=F/\x=F-i/\iv=I i/\Hid (aL (fe w) (w.1.size+1) wr ov C)/\Hid (Fq w0 n0 n5 w N wr)/\Hid (aG (zK w wr ov) wr E N)/\Hid (E.CR=0->sO E/\C.length=E.P.threads.length)/\Hid (DF.Du (l.drop i) E=Df)/\Hid (C++DF.DN (l.drop i) E=Bf)/\Hid (C.length<=65));case atStart=>exact⟨0,ii,nx,[],FX _,z,z,O (aL.nil _ _ _),J,O (M.CQ fun c A=>⟨A,by simp[GF]⟩),O fun _=>⟨sd,z⟩,j5,k8,O (FX _)⟩
 case round=>
  clear J M;obtain⟨i,E,N,C,hi,rfl,rfl,Z,J,M,HC,HE,HB,d2⟩:=hrel;obtain⟨H,K,rfl,f1⟩:=Z.form;have l4:=O f1;clear f1;have c19:=(J.f.cell 19).trans M.c19;obtain⟨fl,d5⟩:=eX E.CR;rw[d5]at c19;have a1:=O d5;clear d5;by_cases i5:i<F
  .have j7:(i:Int)< (F:Int):=by omega
   by_cases b9:fl=0
   .subst b9;have k9:(0:Int)<=(i:Int):=by omega
    go_wp2;obtain⟨D,hV⟩:=eX wr.drew;have R:Hid (Fq w0 n0 n5 w N D):=O (by rw[<-hV];exact J.below (FB _ wr).drew);have d6:Hid (aG (zK w D (.slice H C.length K)) D E N):=O (by rw[<-hV];exact M.below (FB _ wr).drew);have b8:Hid (aL (fe w) (w.1.size+1) D (.slice H C.length K) C):=O (by rw[<-hV];exact Z.below (FB _ wr).drew);have e6:=O d6.cells;have a2:i<l.length:=by rw[HN.o];exact i5
    obtain⟨b2,a8,dc,rfl,-,a4,h3⟩:=j0 i a2;have f8:l.getD i default∈l:=by rw[FD,FC a2];exact Gy _
    have d1:l.drop i=l.getD i default::l.drop (i+1):=by rw[FZ a2,FD,FC a2];rfl
    have a3:=HE.o;have a7:=HB.o;rw[d1,DF.Du,am (by rw[a1.o];decide)]at a3;rw[d1,DF.DN,am (by rw[a1.o];decide)]at a7;obtain⟨k1,k6,kv,-⟩:=qy (HR _ f8);let ⟨b4,e7⟩:=HC a1
    have b7:=wK (l.getD i default) b4 k1 k6;have c8:=ta (l.getD i default) k1 k6 (fun h=>⟨by have:=(kv h).1;omega,(kv h).2⟩) (zK w D (.slice H C.length K)) E N dc D (fun c A=>A.1.2) d6 b4.vi (h3.keep fun b o u _ hu=>ai R.b b o u hu);generalize l.getD i default=d at *;obtain⟨G,h7⟩:=eX (E.dec d);rw[h7]at a3 a7 b7 c8;let ⟨ab,a0,a6,g5,g6⟩:=h3
    have f0:w.cell? (ad b2 (a8+i*6))=some (I d.kind):=a4 0 _ (by rw[a6];rfl);have f5:w.cell? (ad b2 (a8+i*6+5))=some (.slice ab d.body.length a0):=a4 5 _ (by rw[a6];rfl);have HF:=O (EQ f0 f5);have i9:=O (EQ g5 g6);have g9:=O c8;have f3:=O a3;have a5:=O a7;have d0:=O b7;have b5:Hid (C.length=E.P.threads.length/\E.P.threads.length<=64):=O ⟨e7,by have:=b4.vi.lens;omega⟩;have j2:Hid (dc.length=6):=O (by rw[a6];rfl);have j9:Hid (w.rangeAt b2 (a8+i*6) dc):=O a4;have i3:Hid (∀g,(Gd H C.length K).ownBlock=some g->g<D.1.size):=O fun g hg=>by obtain⟨cells,-,h5,-⟩:=b8.own;exact(h5.lt g hg).2
    clear J M Z HC HE HB a3 a7 b7 c8 a4 a6 g5 g6 f0 f5 d1 f8 b4 e7 k1 k6 kv h7 a2 c19;apply al [6] (fun W=>FM D.1.size D W) j1;rw[hV];clear hV;have X:Hid (FM D.1.size D D):=O (FB _ D);refine tl 0 30 X 109 5 w.1.size 0 N du (fun W hS=> (R.f.below hS).whole) i6 j3 (by rw[e6.o.1];exact aj) ?_;refine ke 1 ?_;refine nm ?_;refine tl 4 34 X 46 33 b2 (a8+i*6) dc k0 (fun W hS=>fun j u hu=>ai hS _ _ _ (ai R.b _ _ _ (j9 j u hu))) j6 j4 (by rw[j2.o];exact aR) ?_;refine nm ?_;refine oD 5 fun d9 hK=>?_;go_simp;apply g9.mono;rintro e V2 ⟨⟨V,rfl,hd⟩,Q⟩;have c9:=O (R.below Q);have e8:=O (b8.below Q);have h0:Hid (FM D.1.size D V2):=O Q
    have h8:Hid (aG (zK w V2 (.slice H C.length K)) V2 G V):=O (hd.tight.CQ fun c A=>⟨⟨by rcases A.1 with h|h;exact h.1.1;have:=R.lt;omega,A.2⟩,by rcases A.1 with h|h;exact h.2;exact fun e=>by have:=i3 c e;omega⟩);have i2:=O hd.cells;apply hK _ _ (fun _=>h0);clear hK d9 hd Q R b8 d6;refine oD 6 fun d9 hK=>?_;refine an aj (.tmp 5) (.tmp 35) z w.1.size V _ z z c9.f e6.1 i2 ?_;intro W7 k7 c7;have Y:=O (c9.Dc k7 c7);have d3:=O (c7.grow e8 (by omega));have d8:Hid (aG (zK w W7 (.slice H C.length K)) W7 G V):=O ((c7.df (fun e=>by have:=e.1.1;omega) h8).CQ fun c A=>⟨⟨A.1.1,by rw[c7.size];exact A.1.2⟩,A.2⟩);clear k7 c7 c9 e8 h8;apply hK _ _ nofun;clear hK d9;simp only[Act.put];refine dn ?_
    have m0:=ai Y.b _ _ _ HF.1;have m5:=ai Y.b _ _ _ HF.2;have i0:=Gi ((i:Int)+1) (by have S:=(f2 trivial).1;have h2:=(f2 trivial).2;omega);have h4:=O i0;clear i0 X h0 g9;by_cases U:d.kind=6
    .rw[aD U]at a5;have h9:Hid (G.CR=0->sO G/\G.P.threads.length=E.P.threads.length+1):=O fun h=>by have S:=d0 h;rw[aD U]at S;exact S
     have k2:Hid (C.length<=10000000):=O (by have:=b5.o;omega);have l3:=O Y.lt;go_wp2_with (first
      | ((with_reducible refine cp 48 (.buildSlice _ _ _) ?_);refine cy z (.tmp 47) z g1 g8 g2 g4 e3 (by decide) (by decide) (.slice ab d.body.length a0) [.slice ab d.body.length a0] z z z ?_;intro Wb kb bb sb;have KB:=O kb;have BB:=O bb;clear kb bb sb;have i1:=O (d3.below BB);have e4:=O (Y.below BB);have i4:Hid (aG (zK w Wb (.slice H C.length K)) Wb G V):=O ((d8.below BB).CQ fun c A=>⟨⟨A.1.1,FJ A.1.2 BB.size⟩,A.2⟩);clear Y d8 d3 m0 m5)
      | ((with_reducible refine cp 49 (.call _) ?_);refine bW (fe w) z (.tmp 42) (.tmp 48) 110 z iT zT g1.o g8 g2 g4 e3 (by show 0<1;decide) i8 (w.1.size+1) Wb (.slice H C.length K) C z i1.o [.slice ab d.body.length a0] d.body ⟨ab,a0,z,i9⟩ _ 44 KB z k2 e4.lt ?_;intro gb l5 j8 f6 f9 f4 g7;have i7:=O f6;have f7:=O f9;have e0:=O (EQ f4 g7);clear f6 f9 f4 g7)
      |fail)
     go_roundg (F- (i+1));case measure=>omega
     case rel=>
      refine⟨i+1,G,V,C++[d.body],by omega,z,congrArg (Gr .i64) h4,i7,O (e4.DV f7),O ?_,O fun h=>⟨(h9 h).1,by rw[(h9.o h).2,List.length_append,b5.o.1];rfl⟩,f3,O (by rw[<-a5.o];simp),O (by have:=b5.o;simp;omega)⟩;refine(i4.keep (w':=j8) fun c o u A hu=>?_).CQ fun c A=>⟨⟨A.1.1,FJ A.1.2 f7.size⟩,fun e=>?_⟩
      .rw[<-hu];simp[FI,e0.o.1 c A.1.2 A.2]
      .have e2:gb=c:=by simpa [GF]using e
       subst e2;rcases e0.2 with h|h
       .exact A.2 h
       .have:=A.1.2;omega
    .rw[am U]at a5;go_wp2;go_roundg (F- (i+1));case measure=>omega
     case rel=>exact⟨i+1,G,V,C,by omega,z,congrArg (Gr .i64) h4,d3,Y,d8,O fun h=>⟨(d0 h).1,by have S:=(d0 h).2;rw[am U]at S;rw[S,b5.o.1];rfl⟩,f3,a5,d2⟩
   .skip;have e1:E=Df:=by
     rw[<-HE.o];cases hh:l.drop i with
     |nil=>rfl
     |cons d r=>rw[DF.Du,aD (by rw[a1.o];exact b9)]
    have e2:C=Bf:=by
     rw[<-HB.o];cases hh:l.drop i with
     |nil=>simp[DF.DN]
     |cons d r=>rw[DF.DN,aD (by rw[a1.o];exact b9)];simp
    subst e1;subst e2;go_wp2;apply e5;exact nQ J (O (M.CQ fun c A=>A.1)) HC (O (Ro.tight (by show 0<1;decide) (Ro.of Z))) g3 (by have:=d2.o;omega)
  .obtain rfl:i=F:=by omega
   have j7:¬ (i:Int)< (i:Int):=by omega
   have e1:E=Df:=by rw[<-HE.o,<-HN.o,Hn];rfl
   have e2:C=Bf:=by rw[<-HB.o,<-HN.o,Hn];simp[DF.DN]
   subst e1;subst e2;go_wp2;apply e5;exact nQ J (O (M.CQ fun c A=>A.1)) HC (O (Ro.tight (by show 0<1;decide) (Ro.of Z))) g3 (by have:=d2.o;omega)
theorem lQ(nmf:ByteArray->Bool)(l:List De)(a:Option Addr)(cap:Nat)(w:Fk)(e1:aF l.length cap)(a0:cQ (fun _=>True) w a l)(a1:∀W,bL w W->Jq prog 16 #[.slice a l.length cap] W fun e w'=>e= .returned (I (if co nmf l=true then 0 else 2))/\bL W w'):
  Jq prog 15 #[.slice a l.length cap] w (lh w (if co nmf l=true then fg l else (fz,(0,0),2))):=by
 obtain⟨i3,z3,a3,b6,a7⟩:=hJ;obtain⟨i2,z2,a2,a8,a6⟩:=hG;obtain⟨i9,z9,d5,c8,b8⟩:=em;obtain⟨d7,c9,b7⟩:=eI;obtain⟨d8,d1,d2⟩:=gW;have a5:=O a1;have a9:=O a0;have d0:=O fun _:True=>e1;clear a1 a0 e1;obtain⟨R,K⟩:=eX ((if co nmf l=true then fg l else (fz,(0,0),2)));rw[K];have D:=O K;clear K;go_in;refine wk fun A g=>?_;go_wp2_with (first
  | (with_reducible refine cp 2 (.alloc 30) ?_;refine ag a3 b6 a7 z z w.1.size z ?_;intro W1 k1 b1 b5;have Z:=O k1;have X:=O b1;clear k1 b1)
  | (with_reducible refine cp 3 (.alloc 32) ?_;refine ag a2 a8 a6 z z (w.1.size+1) b5 ?_;intro W2 k2 b2 s2;have K2:=O k2;have S:=O b2;clear k2 b2)
 )
 apply g;clear g A;have M:=X.trans (S.mono X.size);have Y:=a5 W2 M;obtain⟨d3,U⟩:=eX (co nmf l);rw[U]at Y D;have a4:=O U;have H:=O M;clear U M;refine wk fun A g=>?_;go_wp2_with fail;apply Y.mono;rintro e F ⟨rfl,C⟩;have d6:=C.size;have N:=O ((Z.below S).below C);have V:=O (K2.o.below C);have Q:=O (H.o.trans (C.mono H.o.size));clear C Z K2 X S H;cases d3
 .rw[am (by decide)]at D ⊢;go_wp2_with (first
   | (with_reducible refine s0 30 ?_;refine af bN z (.tmp 2) (.tmp 16) z w.1.size fm _ z z N.o z ⟨z,by decide⟩ ?_;intro W4 k4 c4;have E:=O (EQ k4 c4);clear k4 c4)
   | (with_reducible refine s0 32 ?_;refine af br z (.tmp 3) (.tmp 17) z (w.1.size+1) [I 0,I 0] _ z z (E.o.2.CV (by omega) V.o) z (cl 0 0) ?_;intro G k5 c5;have j:=O (EQ k5 c5);clear k5 c5)
  )
  refine ga c9 b7 bN d1 d2 br (j.o.2.CV (by omega) E.o.1) z j.o.1 z z z z z z ?_;rw[<-D.o];exact⟨⟨fm,z,eQ _ _⟩,j.2.below (by omega) (E.2.below (by omega) Q)⟩
 rw[aD rfl]at D ⊢;go_wp2;refine g _ _ ?_;clear g A;refine wk fun A g=>?_;go_wp2_with (first
  | (with_reducible refine cp 5 (.alloc 109) ?_;refine ag d5 c8 b8 z z F.1.size z ?_;intro W4 k4 b4 s4;have E:=O k4;have J:=O b4;clear k4 b4)
  | (with_reducible refine s0 109 ?_;refine af aj z (.tmp 5) (.tmp 18) z F.1.size nx _ z z E.o z ⟨z,by decide⟩ ?_;intro G k5 c5;have j:=O (EQ k5 c5);clear k5 c5)
 )
 refine g.o _ _ ?_;clear g A;refine wk fun A g=>?_;go_wp2;apply g;clear g A;have d9:=N.lt;have e0:=V.lt;have d4:Hid (Fq w w.1.size (w.1.size+1) F nx G):=O ⟨Q,by omega,j.2.below rl J,j.2.CV (by omega) (N.below J),j.2.CV (by omega) (V.below J),j.1⟩;have b9:Hid (aG (ew F G) G ii nx):=O ⟨_,_,_,_,_,_,_,_,_,_,z,⟨Ro.nil _ _ _,Ro.nil _ _ _,Ro.nil _ _ _,Ro.nil _ _ _,Ro.nil _ _ _,Ro.nil _ _ _,Ro.nil _ _ _,Ro.nil _ _ _,Ro.nil _ _ _⟩,Ro.nil _ _ _⟩;rw[<-D.o];exact zG d4 b9 (d0 trivial) (cQ.keep (fun b o u _ hu=>ai Q b o u hu) a9) (GC.1 a4)
def eC(F:List De->Pg× (Int×Int)×Int)(s:ByteArray):Pg× (Int×Int)×Int:=if (bh s).2.2≠0 then (fz,(bh s).2.1,(bh s).2.2) else F (bh s).1
theorem bK:St.cls []:=by unfold St.cls;trivial
theorem pI:∀ {a:List St} {s:St},St.cls a->s.cl->St.cls (a++[s])
 | [],s,_,h=>by
  rw[Hw]
  unfold St.cls
  exact⟨h,bK⟩
 |x::r,s,ha,h=>by
  unfold St.cls at ha
  rw[GM]
  unfold St.cls
  exact⟨ha.1,pI ha.2 h⟩
def dd(f:fT):PanicEntry:={v:= .iface 95 (.agg #[.int .i64 f.1.1,.int .i64 f.1.2,.int .i64 f.2]),recovered:=false}
structure PF where
 L:List Nm
 ce:Int
 n:Nat
 loc:Nat
 mo:Nat
variable {F:PF}
def wE(k:Int)(a b:Int)(p q:Bool)(n:Nat):MapEntry:=⟨.int .i64 k,.agg #[.int .i64 a,.int .i64 b,.bool p,.bool q],n⟩
def gA:List MapEntry:=[wE 2 1 0 true false 0,wE 3 2 0 false false 1,wE 6 3 0 false false 2,wE 7 3 0 false false 3,wE 8 4 3 false false 4,wE 9 4 0 false false 5,wE 10 4 0 false false 6,wE 11 5 0 false false 7,wE 12 5 1 false true 8,wE 13 6 0 false false 9]
def eD(g h:Nat)(D:PF):List Fr:=[.map (some g),.map (some h),.int .i64 D.ce,.int .i64 (D.n:Int),.int .i64 (D.loc:Int),.int .i64 (D.mo:Int)]
structure Fi (w:Fk) (F g h:Nat) (pc:List Fr) (D:PF):Prop where
 lp:pc.length=13
 f:ak w F 101 (pc++eD g h D)
 m:oV w g D.L
 wm:w.1[h]? =some (.map gA.toArray 10)
 fg:F≠g
 fh:F≠h
 gh:g≠h
section
variable {w w':Fk} {F g h b:Nat} {pc:List Fr} {D:PF}
theorem Fi.at(H:Fi w F g h pc D)(j:Nat):w.cell? (ad F (13+j))=(eD g h D)[j]? :=by rw[H.f.cell,List.getElem?_append_right (by rw[H.lp];omega),H.lp,Nat.add_sub_cancel_left]
theorem Fi.c13(H:Fi w F g h pc D):w.cell? (ad F 13)=some (.map (some g)):=H.at 0
theorem Fi.c14(H:Fi w F g h pc D):w.cell? (ad F 14)=some (.map (some h)):=H.at 1
theorem Fi.c15(H:Fi w F g h pc D):w.cell? (ad F 15)=some (I D.ce):=H.at 2
theorem Fi.c16(H:Fi w F g h pc D):w.cell? (ad F 16)=some (I D.n):=H.at 3
theorem Fi.c17(H:Fi w F g h pc D):w.cell? (ad F 17)=some (I D.loc):=H.at 4
theorem Fi.c18(H:Fi w F g h pc D):w.cell? (ad F 18)=some (I D.mo):=H.at 5
theorem oV.lt{L:List Nm}(H:oV w g L):g<w.1.size:=by obtain⟨A,n,j,-⟩:=H;exact(FT.1 j).1
theorem Fi.EH(H:Fi w F g h pc D):F<w.1.size/\g<w.1.size/\h<w.1.size:=⟨H.f.lt,H.m.lt,(FT.1 H.wm).1⟩
theorem oV.of{L:List Nm}(H:oV w g L)(C:w'.1[g]? =w.1[g]?):oV w' g L:=by
 let ⟨j,n,E,A⟩:=H
 exact⟨j,n,C.trans E,A⟩
theorem Fi.of(H:Fi w F g h pc D)(C:w'.1[F]? =w.1[F]?)(j:w'.1[g]? =w.1[g]?)(A:w'.1[h]? =w.1[h]?):Fi w' F g h pc D:=⟨H.lp,H.f.of C,H.m.of j,A.trans H.wm,H.fg,H.fh,H.gh⟩
theorem Fi.below(H:Fi w F g h pc D){B:Nat}(j:FM B w w')(C:F<B)(A:g<B)(E:h<B):Fi w' F g h pc D:=H.of (j.block _ C) (j.block _ A) (j.block _ E)
theorem Fi.up(H:Fi w F g h pc D)(j:bL w w'):Fi w' F g h pc D:=H.below j H.EH.1 H.EH.2.1 H.EH.2.2
theorem Fi.ch(H:Fi w F g h pc D)(E:Ch b w w')(A:F≠b)(j:g≠b)(C:h≠b):Fi w' F g h pc D:=by obtain⟨o,vs,rfl⟩:=E;exact H.of (au A _ _ _) (au j _ _ _) (au C _ _ _)
theorem iQ{A:Type}:∀ (l r:List A) (j:Nat) (v:A),(l++r).set (l.length+j) v=l++r.set j v
 | [],r,j,v=>by simp
 |x::l,r,j,v=>by rw[GM,FV,show l.length+1+j=(l.length+j)+1 by omega,List.set_cons_succ,iQ l r j v,GM]
theorem Fi.set(H:Fi w F g h pc D)(j:Nat)(v:Fr)(D':PF)(C:D'.L=D.L)(E:(eD g h D).set j v=eD g h D'):Fi (w.setCell (ad F (13+j)) v) F g h pc D':=by have A:=H.f.set1 (13+j) v;rw[show 13+j=pc.length+j by rw[H.lp],iQ,E]at A;rw[show 13+j=pc.length+j by rw[H.lp]];exact⟨H.lp,A,by rw[C];exact H.m.of (Below.heap_setCell w (ad F (pc.length+j)) v g (Gp H.fg)),(Below.heap_setCell w (ad F (pc.length+j)) v h (Gp H.fh)).trans H.wm,H.fg,H.fh,H.gh⟩
theorem Fi.map(H:Fi w F g h pc D)(j:iz g w w'){L:List Nm}(A:oV w' g L):Fi w' F g h pc {D with L:=L}:=⟨H.lp,j.CV H.fg H.f,A,(j.block _ (Gp H.gh)).trans H.wm,H.fg,H.fh,H.gh⟩
end
def xG{α:Type}(w:Fk)(R:Except fT α)(ok:α->GP->Fk->Prop)(e:GP)(w':Fk):Prop:=FM w.1.size w w'/\match R with
 | .error f=>e= .panicked [dd f]
 | .ok x=>ok x e w'
theorem gd(k s:Int)(w:Fk):Jq prog 151 #[.agg #[I k,I s]] w fun e w'=>e= .returned (.bool (decide (k=0)))/\bL w w':=by go_in;go_wp2;go_ret;exact⟨z,(FB _ w).alloc rl _⟩
theorem eT(n a b:Int)(p:Int×Int)(w:Fk):Jq prog 79 #[I n,I a,I b,.agg #[I p.1,I p.2]] w fun e w'=>bL w w'/\e=(if n<a∨b<n then .panicked [dd (p,134)] else .returned (.tuple #[])):=by
 let ⟨R,g⟩:=eX ((if n<a∨b<n then Ending.panicked [dd (p,134)] else .returned (.tuple #[])))
 rw[g];have A:=O g;clear g;let ⟨l,c⟩:=p
 have j:=O ((FB w.1.size w).alloc rl (.cells #[I l,I c] 32));go_in;go_wp2;all_goals have g:=A.o
 .rw[aD (by omega)]at g;exact⟨z,j,g⟩
 .rw[am (by omega)]at g;go_end0;exact⟨j,g⟩
 .rw[aD (by omega)]at g;exact⟨z,j,g⟩
theorem eR:∃i z,prog.info? 104=some i/\i.zero=some z/\z.cells=([I 0,I 0]:List Fr).toArray:=fH (by kernel_rfl)
theorem bY:(prog.info? 104).map (·.size)=some 2:=by kernel_rfl
theorem hQ:∃d,prog.underlying 104=some d/\d.isRow=true:=by
 have h:(prog.underlying 104).map (·.isRow)=some true:=by kernel_rfl
 let ⟨d,j,g⟩:=Ga.1 h
 exact⟨d,j,g⟩
def xH(r:Option Nm):Int:=match r with
 |none=>0
 |some x=> (x.kind:Int)
def xM(r:Option Nm):Int:=match r with
 |none=>0
 |some x=> (x.slot:Int)
theorem mr(r:Option Nm):AU r= .agg #[I (xH r),I (xM r)]:=by cases r<;>rfl
def Am(x:Nm)(e:GP)(_:Fk):Prop:=e= .returned x.ev
theorem gY{F h:Nat}{pc:List Fr}{D:PF}(H:Fi w F g h pc D)(s:ByteArray)(k:Nat)(lo:Bool)(p:Int×Int):Jq prog 150 #[Pt F,.string s,I k,.bool lo,.agg #[I p.1,I p.2]] w (xG w (hs D.L s k lo p) Am):=by
 obtain⟨i4,z4,b4,a7,b5⟩:=eR;obtain⟨d4,a1,a0⟩:=hQ;obtain⟨R,j⟩:=eX (hs D.L s k lo p);rw[j];unfold hs at j;have W:=O j;clear j;have HH:=O H;clear H;obtain⟨l,c⟩:=p;go_in;refine wk fun K A=>?_;go_wp2_with (first
  | (with_reducible refine cp 9 (.box 32 _) ?_;refine aJ z (.tmp 4) z [I l,I c] z w.1.size z ?_;intro W1 k1 b1 a9;have K1:=O k1;have Y:=O b1;clear k1 b1)
  | (with_reducible refine cp 10 (.alloc 104) ?_;refine ag b4 a7 b5 z z (w.1.size+1) a9 ?_;intro W2 k2 b2 s2;have K2:=O k2;have c8:=O b2;clear k2 b2)
 )
 refine A.o _ _ ?_;clear A K;have HF:=O ((HH.o.up Y.o).up c8.o);have HB:=O (Y.o.trans (c8.o.mono Y.o.size));have Q:=O (K1.o.below c8.o);have HX:=O K2.o;clear K1 K2 Y c8 a9 HH;have c13:=HF.o.c13;have a5:=jG HF.o.m s;rw[mr]at a5;obtain⟨r,hr⟩:∃r,ex D.L s=r:=⟨_,z⟩;rw[hr]at a5 W;clear hr;have G:=Q.o.cell 0;have E:=Q.o.cell 1;simp only[FE,FH]at G E;refine wk fun K A=>?_;go_wp2_with (first
  | (with_reducible refine cp 11 (.alloc 104) ?_;refine ag b4 a7 b5 z z (w.1.size+1+1) s2 ?_;intro W3 k3 b3 s3;have K3:=O k3;have Z:=O b3;clear k3 b3)
  | (with_reducible refine s0 104 ?_;refine af bY z (.tmp 11) (.tmp 20) z (w.1.size+1+1) [I (xH r),I (xM r)] _ z z K3.o z ⟨z,by simp[GZ]⟩ ?_;intro W4 k4 c4;have S:=O (EQ k4 c4);clear k4 c4)
 )
 refine A.o _ _ ?_;clear A K;have hp:=Q.o.lt;have hx:=HX.o.lt;have X:=O (S.o.2.CV (by omega) (Q.o.below Z.o));have a2:=O (S.o.2.CV (by omega) (HX.o.below Z.o));have J:=O (S.o.2.below (by omega) (HB.o.trans (Z.o.mono HB.o.size)));have c9:=O S.o.1;clear Q HX HB K3 Z S c13 a5 G E HF;have G:=X.o.cell 0;have E:=X.o.cell 1;have e0:=c9.o.cell 0;have e1:=c9.o.cell 1;simp only[FE,FH]at G E e0 e1;rcases r with _|x
 .have j:=W.o;go_wp2_with fail;subst j;exact⟨z,J.o,z⟩
 have j:=W.o;simp only[xH,xM]at e0 e1;refine wk fun K A=>?_;go_wp2_with fail;refine A.o _ _ ?_;clear A K;obtain⟨xt,C,xs⟩:=x;have a4:Hid (ak W4 (w.1.size+1+1) 104 [I C,I xs]):=c9;clear c9;refine wk fun K A=>?_;by_cases hk:C=k
 .subst hk;rw[am (by simp)]at j;have a3:=O j.symm;clear j W;go_wp2_with fail;refine A.o _ _ ?_;go_wp2_with (first
   | (with_reducible refine l0 104 ?_;refine ac a1 a0 bY z (.tmp 11) z (w.1.size+1+1) [I C,I xs] z a4 z ?_)
   | (with_reducible refine s0 104 ?_;refine af bY z (.tmp 10) (.tmp 42) z (w.1.size+1) [I C,I xs] _ z z a2.o z ⟨z,by simp[GZ]⟩ ?_;intro W9 V N;have U:=O (EQ V N);clear V N)
  )
  refine aC a1 a0 bY U.o.1 z z z z ?_;rw[a3.o];exact⟨U.o.2.below (by omega) J.o,z⟩
 .have b9:¬ (C:Int)=(k:Int):=by omega
  cases lo with
  |false=>
   rw[aD ⟨hk,by simp⟩]at j;go_wp2_with fail;subst j;exact⟨z,J.o,z⟩
  |true=>
   go_wp2_with fail;refine(gd (C:Int) (xs:Int) W4).mono ?_;rintro e W5 ⟨rfl,M⟩;have a8:=O (J.o.trans (M.mono J.o.size));have a6:=O (X.o.below M);have b6:=O (a2.o.below M);have b8:=O (a4.o.below M);clear M J X a2 a4 G E e0 e1;have G:=a6.o.cell 0;have E:=a6.o.cell 1;simp only[FE,FH]at G E;by_cases h0:C=0
   .have b7:(C:Int)=0:=by omega
    rw[am (by simp[h0])]at j;have a3:=O j.symm;clear j W;go_wp2_with fail;refine A.o _ _ ?_;go_wp2_with (first
     | (with_reducible refine l0 104 ?_;refine ac a1 a0 bY z (.tmp 11) z (w.1.size+1+1) [I C,I xs] z b8 z ?_)
     | (with_reducible refine s0 104 ?_;refine af bY z (.tmp 10) (.tmp 42) z (w.1.size+1) [I C,I xs] _ z z b6.o z ⟨z,by simp[GZ]⟩ ?_;intro W9 V N;have U:=O (EQ V N);clear V N)
    )
    refine aC a1 a0 bY U.o.1 z z z z ?_;rw[a3.o];exact⟨U.o.2.below (by omega) a8,z⟩
   .have b7:¬ (C:Int)=0:=by omega
    rw[aD ⟨hk,by simp[h0]⟩]at j;go_wp2;subst j;exact⟨z,a8,z⟩
def gn{α β:Type}(f:α->β):Except fT α->Except fT β
 | .error e=> .error e
 | .ok x=> .ok (f x)
theorem ha{j w A:Type}(f:j->w)(g:w->A)(r:Except fT j):gn g (gn f r)=gn (fun x=>g (f x)) r:=by cases r<;>rfl
theorem qH(L:List Nm)(p:Int×Int)(x:Ex)(r:List Ex):fN L p (x::r)=(match hM L p x with| .error e=> .error e| .ok y=>gn (y::·) (fN L p r)):=by
 rw[fN];cases hM L p x with
 |error e=>rfl
 |ok y=>cases fN L p r<;>rfl
def oP(L:List Nm)(p:Int×Int)(k:Int)(s:ByteArray)(sl:Int)(lo:Bool):Except fT (Int×Bool):=if k=2 then (hs L s 1 true p).map fun x=> ((x.slot:Int),decide (x.kind=0)) else if k=3 then (hs L s 2 false p).map fun x=> ((x.slot:Int),lo) else .ok (sl,lo)
theorem zE(L:List Nm)(p:Int×Int)(k n:Int)(s:ByteArray)(sl:Int)(lo:Bool)(o:Int)(args:List Ex):hM L p (.mk k n s sl lo o args)=(match oP L p k s sl lo with| .error e=> .error e| .ok q=>gn (fun l=> .mk k n s q.1 q.2 o l) (fN L p args)):=by
 rw[hM];show (match oP L p k s sl lo with| .error e=>_| .ok (sl',lo')=>_)=_;cases oP L p k s sl lo with
 |error e=>rfl
 |ok q=>cases fN L p args<;>rfl
structure Xp (w:Fk) (ec:List Fr) (pl pc:Int) (W:Fk):Prop where
 b:FM w.1.size w W
 e:ak W w.1.size 58 ec
 p:ak W (w.1.size+1) 32 [.int .i64 pl,.int .i64 pc]
 y:ak W (w.1.size+1+1) 58 yH
section
variable {w W W':Fk} {ec ec':List Fr} {pl pc:Int}
theorem Xp.DV(h:Xp w ec pl pc W)(g:FM (w.1.size+3) W W'):Xp w ec pl pc W':=⟨h.b.trans (g.mono (by omega)),h.e.of (g.block _ (by omega)),h.p.of (g.block _ (by omega)),h.y.of (g.block _ (by omega))⟩
theorem Xp.lt(h:Xp w ec pl pc W):w.1.size+3<=W.1.size:=h.y.lt
theorem Xp.below(h:Xp w ec pl pc W)(g:bL W W'):Xp w ec pl pc W':=h.DV (g.mono h.lt)
theorem Xp.ch(h:Xp w ec pl pc W)(j:w.1.size+3<=b)(g:Ch b W W'):Xp w ec pl pc W':=h.DV (g.below j (FB _ _))
theorem Xp.Em(h:Xp w ec pl pc W)(j:ak W' w.1.size 58 ec')(g:Ch w.1.size W W'):Xp w ec' pl pc W':=⟨g.below (by omega) h.b,j,g.CV (by omega) h.p,g.CV (by omega) h.y⟩
end
theorem vj{k n:Int}{sl:Int}{lo:Bool}{pc:Int}{l:List Ex}(D:Hid (Xp w (gv k n s sl lo p0 v0) p1 pc W))(K:Hid (aL gC (w.1.size+3) W (.slice a0 l.length j) l)){R:Except fT Ex}(HR:Hid (R= .ok (.mk k n s sl lo p0 l)))(hU:l2.length=44:=by rfl):
  FR prog (Jp 4 (f148.body.getD .skip)) (Gb prog f148 (xG w R (kN w))) ⟨(v1::v2::v3::v4::Pt w.1.size::Pt (w.1.size+1)::Pt (w.1.size+1+1)::v5:: .slice a0 l.length j::l2).toArray,[]⟩ W:=by
 revert l2;apply aN;iterate 44 intro _
 change FR _ _ _ _ _;let ⟨a7,a2,V⟩:=en
 have a1:aF l.length j:=by obtain⟨a,cap,h1,h2⟩:=K.form;cases h1;exact h2
 have c6:W.cell? ⟨w.1.size,6,none⟩=some v0:=by rw[D.o.e.cell];rfl
 have f6:=D.e.frozen 6;obtain⟨g,J⟩:=eX (l.length);have a5:=O a1;have U:=O K.DI;clear a1 K;rw[J];have HN:=O J;clear J;conv in (Jp _ _)=>whnf
 refine wk fun K1 X=>?_;go_wp2;apply X;clear X K1;have N:=O (D.Em (D.e.set1 6 (.slice a0 g j)) (Ch.one 6 (.slice a0 g j) W));have a4:=O (ch.keep (fun c o u C G=>by have Z:=C;rw[(Ch.one 6 (.slice a0 g j) W).cell (show c≠w.1.size by omega)];exact G) U)
 clear D U c6 f6;generalize W.setCell _ _=W1 at *;have E:Hid (Xp w (gv k n s sl lo p0 (.slice a0 g j)) p1 pc W1):=N;clear N;obtain⟨A,F⟩:∃A,gv k n s sl lo p0 (.slice a0 g j)=A:=⟨_,z⟩;have H:A.length=7/\∀v∈A,v.oneCell'=true:=by rw[<-F];exact qd
 rw[F]at E;have a3:=O F;have a6:=O H;have Y:=H.1;clear F H;go_wp2_with (first
  | (with_reducible refine l0 58 ?_;refine ac a2 V be z (.tmp 4) z w.1.size A z (O E.o.e) Y ?_)
  | (with_reducible refine s0 58 ?_;refine af be z (.tmp 6) (.tmp 52) z (w.1.size+1+1) A _ z z E.o.y z a6.o ?_;intro W9 Q S;have M:=O (EQ Q S);clear Q S)
 )
 refine aC a2 V be M.o.1 Y z z z ?_;rw[HR.o];refine⟨M.2.below (by omega) E.b,A,z,?_⟩;rw[<-a3.o,<-HN.o];unfold ExL;exact⟨a0,j,z,a5,ch.CQ (fun c C=>by have Z:=C;show w.1.size<=c;omega) (ch.keep (fun c o u C G=>by have Z:=C;rw[M.o.2.cell (show c≠w.1.size+1+1 by omega)];exact G) a4)⟩
theorem kB{k n:Int}{sl:Int}{lo:Bool}{pc:Int}{F h:Nat}{fc:List Fr}{D:PF}{cap:Nat}{args:List Ex}(HF:Hid (Fi w F g h fc D))(K:aF args.length cap)(b5:args.length<=10000000)(HX:Hid (dT w a args))
  (IH:Hid (∀x∈args,∀xs W,Fi W F g h fc D->ExL (fun _=>True) W xs x->Jq prog 148 #[Pt F,.agg xs.toArray,.agg #[I p0,I pc]] W (xG W (hM D.L (p0,pc) x) (kN W))))
  (E:Hid (Xp w (gv k n s sl lo p1 (.slice a args.length cap)) p0 pc W)){R:Except fT Ex}(HR:Hid (R=gn (fun l=> .mk k n s sl lo p1 l) (fN D.L (p0,pc) args)))(hU:l2.length=46:=by rfl):
  FR prog (Jp 2 (f148.body.getD .skip)) (Gb prog f148 (xG w R (kN w))) ⟨(Pt F::v0::v1::v2::Pt w.1.size::Pt (w.1.size+1)::Pt (w.1.size+1+1)::l2).toArray,[]⟩ W:=by
 revert l2;apply aN;iterate 46 intro _
 change FR _ _ _ _ _;let ⟨f2,e1,d9⟩:=en
 let ⟨i8,z8,f6,g2,g5⟩:=mm
 have c9:Hid (prog.underlying 56=some (.slice 58)):=O (by kernel_rfl);obtain⟨i0,z0,M,a0,V,Z,a4⟩:∃i z,prog.info? 58=some i/\i.zero=some z/\z.cells.size=7/\i.size=7/\i.bytes<=1024:=by
  have h:=sS;let ⟨i,h1,h2⟩:=Ga.1 h
  simp only[Prod.mk.injEq]at h2;let ⟨h3,h4,h5⟩:=h2
  let ⟨z,h6,h7⟩:=Ga.1 h3
  exact⟨i,z,h1,h6,h7,h4,of_decide_eq_true h5⟩
 have Y:=O (EQ M (EQ a0 (EQ V (EQ Z a4))));clear M a0 V Z a4;let ⟨C,hN⟩:=eX (args.length)
 rw[hN]at E K b5;have Q:=O hN;clear hN;have d8:=O K;have g9:=O fun _:True=>b5;clear K b5;conv in (Jp _ _)=>whnf
 refine wk fun KK a2=>?_;go_wp2_with fail;refine a2.o _ _ ?_;clear a2 KK;have c6:W.cell? ⟨w.1.size,6,none⟩=some (.slice a C cap):=by rw[E.o.e.cell];rfl
 refine wk fun KK a2=>?_;go_wp2_with fail;clear c6;go_loopg [8,38] C (fun x av iv wr=>∃ (i:Nat) (acc:List Ex),i<=C/\x=C-i/\iv=I i/\acc.length=i/\Hid (aL gC (w.1.size+3) wr av acc)/\Hid (Xp w (gv k n s sl lo p1 (.slice a C cap)) p0 pc wr)/\Hid (fN D.L (p0,pc) args=gn (acc++·) (fN D.L (p0,pc) (args.drop i))));case atStart=>exact⟨0,[],FX _,rfl,rfl,rfl,O (aL.nil _ _ _),E,O (by cases h:fN D.L (p0,pc) args<;>simp[gn,h])⟩
 case round=>
  clear E;obtain⟨i,acc,hi,rfl,rfl,X,S,E,HD⟩:=hrel;obtain⟨ga,a8,rfl,b6⟩:=S.o.form;have i4:=O b6;clear b6;have b9:=O X;clear X;by_cases a5:i<C
  .have h9:(i:Int)< (C:Int):=by omega
   have h8:(0:Int)<=(i:Int):=by omega
   have K:(i:Int)+1<=9223372036854775807:=by have h1:=d8.o.1;have h2:=d8.o.2;omega
   have f4:=O fun _:True=>K;clear K;obtain⟨b2,b8,xs,rfl,e3,a3⟩:=dT.at (dT.below HX.o E.o.b) (j:=i) (by rw[Q.o];exact a5);have d2:args.getD i aT∈args:=by rw[FD,FC (by rw[Q.o];exact a5)];exact Gy _
   have c8:=fun W=>IH.o _ d2 xs W;have d6:args.drop i=args.getD i aT::args.drop (i+1):=by rw[FZ (by rw[Q.o];exact a5),FD,FC (by rw[Q.o];exact a5)];rfl
   have A:=HD.o;rw[d6,qH]at A;generalize args.getD i aT=x at *;have g4:=O c8;have d1:=O A;have f7:Hid (ExL (fun _=>True) wr xs x):=O a3;have f0:Hid (wr.rangeAt b2 (b8+i*7) xs):=O e3;have g8:=O a3.cells;have b7:=a3.cells.1;clear c8 A a3 e3 d6 HD d2;obtain⟨J,a7⟩:=eX (wr.1.size);have a6:Hid (w.1.size+3<=J):=O (by rw[<-a7];exact E.o.lt);go_wp2_with (first
    | (with_reducible refine l1 41 58 ?_;refine Gn rfl 58 (.tmp 40) rfl b2 (b8+i*7) rfl xs f2 f0.o e1 d9 (by rw[b7];exact be) ?_)
    | (with_reducible refine cp 10 (.alloc 58) ?_;refine ag f6 g2 g5 rfl rfl J a7 ?_;intro W4 k4 b4 s4;have K4:=O k4;have B4:=O b4;clear k4 b4)
    | (with_reducible refine s0 58 ?_;refine af be rfl (.tmp 10) (.tmp 41) rfl J xs _ rfl rfl K4.o rfl g8.o ?_;intro W5 k5 c5;have U:=O (EQ k5 c5);clear k5 c5;have G:=O ((E.o.below B4.o).ch a6.o U.o.2);have d3:=(G.o.p.cell 0);have e0:=G.o.p.cell 1;simp only[FE,FH]at d3 e0)
    | (with_reducible refine l1 44 58 ?_;refine ac e1 d9 be rfl (.tmp 10) rfl J xs rfl (O U.o.1) b7 ?_)
   )
   have a9:FM wr.1.size wr W5:=U.o.2.below (by omega) B4.o;refine(g4.o W5 (HF.o.up G.o.b) (f7.o.sub a9)).mono ?_;rintro e W6 ⟨N,hm⟩;let ⟨r,hr⟩:=eX (hM D.L (p0,pc) x)
   have A:=d1.o;rw[hr]at hm A;clear hr;rcases r with er|y
   .obtain rfl:e= .panicked [dd er]:=hm;have H:=HR.o;rw[A]at H;subst H;exact⟨rfl,G.b.trans (N.mono G.b.size),rfl⟩
   obtain⟨es,rfl,he⟩:=hm;have g7:=O A;clear A d1;have HL:=O he.cells;have e6:J+1<=W5.1.size:=by rw[U.o.2.size];omega
   have g1:=N.size;have d5:=S.o;have g3:Hid (∀g,(Gd ga acc.length a8).ownBlock=some g->g<J):=O fun g hg=>by obtain⟨cells,-,h5,-⟩:=d5.own;have:=(h5.lt g hg).2;omega
   clear d5;have d4:Hid (gC.L (fun c=>w.1.size+3<=c/\(Gd ga acc.length a8).ownBlock≠some c) W6 es y):=O (ExL.CQ (fun c hc=>by have i3:W5.1.size<=c:=hc;have:=a6.o;exact⟨by omega,fun e=>by have:=g3 c e;omega⟩) he)
   have d0:=O ((S.below a9).below N);have e4:=O (G.below N);have f1:Hid (w.1.size+3<=W6.1.size):=O (by have:=a6.o;omega);have X:acc.length<=10000000:=by have:=b9.o;have:=g9 trivial;omega
   have e9:=O fun _:True=>X;clear X he N a9 S E G d3 e0 U B4 K4 s4 a7 e6 g1;have M:=Y.1;have a0:=Y.2.1;have V:=Y.2.2.1;have Z:=Y.2.2.2.1;have a4:=Y.2.2.2.2;go_wp2_with (first
    | ((with_reducible show wpList _ _ _ (Oper.mk (some 47) _ _ _ _ _::_) _ _);refine cy rfl (.tmp 46) rfl c9 M a0 Z V (by decide) (by decide) _ es rfl rfl HL.1 ?_;let ⟨gE,a1⟩:=eX (W6.1.size);rw[a1];intro Wb kb bb sb;have KB:=O kb;have f8:=O (d0.below bb);have e7:=O (e4.below bb);have h0:=O (gC.keep (fun b o u _ hu=>ai bb b o u hu) d4);have g6:Hid (w.1.size+3<=Wb.1.size):=O (by have:=f1.o;omega);clear kb bb sb d0 e4 d4)
    | (at_builtin;refine bW gC rfl (.tmp 42) (.tmp 47) 56 rfl i0 z0 c9 M a0 Z V (by decide) a4 (w.1.size+3) Wb (.slice ga acc.length a8) acc rfl f8 es y h0 _ 58 KB rfl (e9 trivial) g6 ?_;intro gb i1 i5 e2 d7 e5 e8;have f5:=O e2;have f3:=O d7;clear e2 d7 e5 e8)
   )
   go_roundg (C- (i+1));case measure=>omega
   case rel=>
    refine⟨i+1,acc++[y],by omega,rfl,?_,by have:=b9.o;simp;omega,by simpa using f5,O (e7.DV f3),O ?_⟩
    .have hp:=f4 trivial;exact congrArg (Gr .i64) ((Gi _ (by omega)).trans (by omega))
    .rw[g7.o,ha];simp
  .obtain rfl:i=C:=by omega
   have i2:¬ (i:Int)< (i:Int):=by omega
   have A:=HD.o;rw[show args.drop i=[] by rw[<-Q.o,Hn]]at A;have H:=HR.o;rw[A]at H;have f9:Hid (R= .ok (.mk k n s sl lo p1 acc)):=O (by rw[H];simp[fN,gn]);clear A H;go_wp2;apply a2;exact vj E S f9
theorem ow{g j:Type}(f:g->j)(r:Except fT g):r.map f=gn f r:=by cases r<;>rfl
theorem te{F h:Nat}{fc:List Fr}{D:PF}(k n:Int)(s:ByteArray)(sl:Int)(lo:Bool)(Q:Int)(args:List Ex)(p:Int×Int)(a3:args.length<=10000000)
  (IH:∀x∈args,∀xs W,Fi W F g h fc D->ExL (fun _=>True) W xs x->Jq prog 148 #[Pt F,.agg xs.toArray,.agg #[I p.1,I p.2]] W (xG W (hM D.L p x) (kN W)))
  (ec:List Fr)(w:Fk)(hF:Fi w F g h fc D)(hX:ExL (fun _=>True) w ec (.mk k n s sl lo Q args)):Jq prog 148 #[Pt F,.agg ec.toArray,.agg #[I p.1,I p.2]] w (xG w (hM D.L p (.mk k n s sl lo Q args)) (kN w)):=by
 obtain⟨f1,f5,f2⟩:=en;obtain⟨i8,z8,e2,e3,e7⟩:=mm;obtain⟨i4,z4,e1,f0,e5⟩:=eR;obtain⟨d4,e6,e4⟩:=hQ;obtain⟨A,pc⟩:=p;unfold ExL at hX;obtain⟨a,cap,d3,e0,c9⟩:=hX;have d9:=c9;obtain⟨R,j⟩:=eX (hM D.L (A,pc) (.mk k n s sl lo Q args));rw[j];rw[zE]at j;obtain⟨E,hE⟩:=eX (gv k n s sl lo Q (.slice a args.length cap));have e9:ec=E:=by rw[<-hE,d3];rfl
 subst e9;have e8:=O hE;have a7:=O e0;have HX:=O d9;have V:=O hF;have a9:=O IH;have b8:=O fun _:True=>a3;have U:=O j;clear j d3 e0 c9 d9 hF hE IH a3;go_in;refine wk fun KK S=>?_;go_wp2_with (first
  | (with_reducible refine cp 4 (.box 58 _) ?_;refine aJ z (.tmp 1) z ec z w.1.size z ?_;intro W1 k1 b1 b9;have K1:=O k1;have B1:=O b1;clear k1 b1)
  | (with_reducible refine cp 5 (.box 32 _) ?_;refine aJ z (.tmp 2) z [I A,I pc] z (w.1.size+1) b9 ?_;intro W2 k2 b2 s2;have K2:=O k2;have B2:=O b2;clear k2 b2)
  | (with_reducible refine cp 6 (.alloc 58) ?_;refine ag e2 e3 e7 z z (w.1.size+1+1) s2 ?_;intro W3 k3 b3 s3;have K3:=O k3;have B3:=O b3;clear k3 b3)
 )
 apply S;clear S KK;have b7:=B1.trans (B2.mono B1.size);have d6:=b7.trans (B3.mono b7.size);have C:Hid (Xp w ec A pc W3):=O ⟨d6,(K1.below B2).below B3,K2.below B3,K3⟩;clear B1 B2 B3 K1 K2 K3 b7 d6 b9 s2 s3;rw[<-e8.o]at C;have c0:W3.cell? ⟨w.1.size,0,none⟩=some (I k):=by rw[C.o.e.cell];rfl
 refine wk fun KK S=>?_;by_cases d0:k=2
 .subst d0;have c2:W3.cell? ⟨w.1.size,2,none⟩=some (.string s):=by rw[C.o.e.cell];rfl
  have f6:=C.p.cell 0;have p1:=C.p.cell 1;simp only[FE,FH]at f6 p1;have j:=U.o;rw[show oP D.L (A,pc) 2 s sl lo=(hs D.L s 1 true (A,pc)).map fun x=> ((x.slot:Int),decide (x.kind=0)) from rfl,ow]at j;have K:=gY (V.up C.b) s 1 true (A,pc);obtain⟨r,Z⟩:=eX (hs D.L s 1 true (A,pc));rw[Z]at K j;have N:=O j;clear Z j U;go_wp2_with fail;apply K.mono;clear K;rintro e Y ⟨J,hm⟩;have H:=O (C.below J);clear J c0 c2 f6 p1 C;rcases r with er|⟨xt,G,xs⟩
  .obtain rfl:e= .panicked [dd er]:=hm;have j:=N.o;obtain rfl:=j;exact⟨z,H.b,z⟩
  obtain rfl:e= .returned (.agg #[I G,I xs]):=hm;have a0:=O N.symm;clear N;obtain⟨X,b6⟩:∃b,Y.1.size=b:=⟨_,z⟩;have d5:Hid (w.1.size+3<=X):=O (b6▸H.o.lt);go_wp2_with (first
   | (with_reducible refine cp 7 (.alloc 104) ?_;refine ag e1 f0 e5 z z X b6 ?_;intro W5 k5 b5 s5;have K5:=O k5;have B5:=O b5;clear k5 b5)
   | (with_reducible refine s0 104 ?_;refine af bY z (.tmp 7) (.tmp 19) z X [I G,I xs] _ z z K5.o z ⟨z,by simp[GZ]⟩ ?_;intro W6 k6 c6;have K6:=O (EQ k6 c6);clear k6 c6)
  )
  have a3:prog.follows .mixedOrders=true:=by kernel_rfl
  obtain⟨a1,hV⟩:=eX (W6.drew);have d2:Hid (Xp w (gv 2 n s sl lo Q (.slice a args.length cap)) A pc a1):=O (by rw[<-hV];exact((H.o.below B5.o).ch d5.o K6.o.2).below (FB _ _).drew);have f7:Hid (ak a1 X 104 [I G,I xs]):=O (by rw[<-hV];exact K6.o.1.drew);clear H K5 B5 K6 s5 b6;apply al [7] (fun W=>ak W X 104 [I G,I xs]) a3;rw[hV];clear hV;refine fa 0 ?_;refine aM 1 (some 21) (v:=?_) z z (by kernel_rfl) (fun _ _ _ h=>h) f7 (GJ ⟨by rfl,?_⟩) ?_;rotate_left
  .intro W1 d8;have k1:=d8.cell 1;simp only[FE,FH]at k1;clear d8;go_simp;first|with_reducible rfl|rw[am (by omega)]
  refine tl 2 22 f7 104 7 X 0 [I G,I xs] d4 (fun W hS=>hS.whole) e6 e4 bY ?_;refine fa 4 ?_;refine nm ?_;refine oD 3 fun a2 M=>?_;go_simp;apply (gd (G:Int) (xs:Int) a1).mono;rintro e V2 ⟨rfl,J⟩;have a6:=O (d2.below J);have a4:=O (f7.below J);apply M _ _ (fun _=>a4);clear M a2 J d2 f7;refine oD 5 fun a2 M=>?_;refine aA (by kernel_rfl) (.tmp 24) (.tmp 21) z w.1.size 3 58 (I xs) _ z z z z a6.e (by show 3<7;decide) ?_;intro W7 k7 c7;have a5:=O (a6.Em k7 c7);have a8:=O (c7.CV (by have:=d5.o;omega) a4);apply M _ _ (fun _=>a8);clear M a2 k7 c7 a6 a4;refine fa 6 ?_;refine nm ?_;refine oD 7 fun a2 M=>?_
  refine aA (by kernel_rfl) (.tmp 25) (.tmp 23) z w.1.size 4 58 (.bool (decide ((G:Int)=0))) _ z z z z a5.e (by show 4<7;decide) ?_;intro W8 k8 c8;have d7:=O (a5.Em k8 c8);apply M _ _ nofun;clear M a2 k8 c8 a5 a8;simp only[Act.put];refine dn ?_;have hq:Xp w (gv 2 n s (xs:Int) (decide (G=0)) Q (.slice a args.length cap)) A pc W8:=by have h0:=d7.o;rw[show decide ((G:Int)=0)=decide (G=0) by simp]at h0;exact h0
  have b4:=O hq;clear hq d7;go_wp2;apply S;exact kB V a7 (b8 trivial) HX a9 b4 a0
 by_cases d1:k=3
 .subst d1;have c2:W3.cell? ⟨w.1.size,2,none⟩=some (.string s):=by rw[C.o.e.cell];rfl
  have f6:=C.p.cell 0;have p1:=C.p.cell 1;simp only[FE,FH]at f6 p1;have j:=U.o;rw[show oP D.L (A,pc) 3 s sl lo=(hs D.L s 2 false (A,pc)).map fun x=> ((x.slot:Int),lo) from rfl,ow]at j;have K:=gY (V.up C.b) s 2 false (A,pc);obtain⟨r,Z⟩:=eX (hs D.L s 2 false (A,pc));rw[Z]at K j;have N:=O j;clear Z j U;go_wp2_with fail;apply K.mono;clear K;rintro e Y ⟨J,hm⟩;have H:=O (C.below J);clear J c0 c2 f6 p1 C;rcases r with er|⟨xt,G,xs⟩
  .obtain rfl:e= .panicked [dd er]:=hm;have j:=N.o;obtain rfl:=j;exact⟨z,H.b,z⟩
  obtain rfl:e= .returned (.agg #[I G,I xs]):=hm;have a0:=O N.symm;clear N;have f4:(Instr.field 104 (.agg #[I G,I xs]) 1).run prog Y= .ok (I xs) Y:=by kernel_rfl
  have c3:Y.cell? ⟨w.1.size,3,none⟩=some (I sl):=by rw[H.o.e.cell];rfl
  have f3:=H.e.frozen 3;have b4:=O (H.Em (H.e.set1 3 (I xs)) (Ch.one 3 _ _));clear H;go_wp2;apply S;exact kB V a7 (b8 trivial) HX a9 b4 a0
 .have j:=U.o;rw[show oP D.L (A,pc) k s sl lo= .ok (sl,lo) by unfold oP;rw[am d0,am d1]]at j;have a0:=O j.symm;clear U j;go_wp2;apply S;exact kB V a7 (b8 trivial) HX a9 C a0
mutual
theorem mC {F g h:Nat} {fc:List Fr} {D:PF} (p:Int×Int):∀ (e:Ex),e.sm->∀ (ec:List Fr) (w:Fk),Fi w F g h fc D->ExL (fun _=>True) w ec e->Jq Tryz.prog 148 #[.pointer (some ⟨F,0,none⟩),.agg ec.toArray,.agg #[.int .i64 p.1,.int .i64 p.2]] w (xG w (hM D.L p e) (kN w))
 | .mk k n s sl lo op args,hs,ec,w,hF,hX=>by
  unfold Ex.sm at hs
  exact te k n s sl lo op args p hs.1 (fun x hx xs W h1 h2=>og p args hs.2 x hx xs W h1 h2) ec w hF hX
theorem og {F g h:Nat} {fc:List Fr} {D:PF} (p:Int×Int):∀ (l:List Ex),Ex.DO l->∀x∈l,∀ (ec:List Fr) (w:Fk),Fi w F g h fc D->ExL (fun _=>True) w ec x->Jq Tryz.prog 148 #[.pointer (some ⟨F,0,none⟩),.agg ec.toArray,.agg #[.int .i64 p.1,.int .i64 p.2]] w (xG w (hM D.L p x) (kN w))
 | [],_,x,hx,_,_,_,_=>by cases hx
 |y::r,hs,x,hx,ec,w,hF,hX=>by
  unfold Ex.DO at hs
  by_cases e:x=y
  .rw[e]at hX ⊢
   exact mC p y hs.1 ec w hF hX
  .exact og p r hs.2 x ((FQ.1 hx).resolve_left e) ec w hF hX
end
def nf(L:List Nm)(loc n mo:Nat)(mk:List St->List St->St)(body els:List St):Except fT (St×Nat×Nat):=match cb L loc n mo body with
 | .error e=> .error e
 | .ok (b,n2,mo2)=>match cb L loc n2 mo2 els with
  | .error e=> .error e
  | .ok (c,n3,mo3)=> .ok (mk b c,n3,mo3)
theorem my(L:List Nm)(loc n mo:Nat)(k l c:Int)(s t:ByteArray)(x y:Ex)(body els:List St)(id sl ot:Int)(lo:Bool):ly L loc n mo (.mk k l c s t x y body els id sl ot lo)=(if n=512 then .error ((l,c),134) else
  match hM L (l,c) y with
  | .error e=> .error e
  | .ok g=>match hM L (l,c) x with
   | .error e=> .error e
   | .ok j=>match dW L loc (l,c) k s t sl ot lo with
    | .error e=> .error e
    | .ok q=>nf L loc (n+1) mo (fun b e=> .mk k l c s t j g b e (n:Int) q.1 q.2.1 q.2.2) body els):=by
 rw[ly]
 split
 .rfl
 cases hM L (l,c) y with
 |error e=>rfl
 |ok g=>
  cases hM L (l,c) x with
  |error e=>rfl
  |ok j=>
   cases dW L loc (l,c) k s t sl ot lo with
   |error e=>rfl
   |ok q=>
    simp only[nf]
    cases cb L loc (n+1) mo body with
    |error e=>rfl
    |ok b=>
     let ⟨b,n2,w⟩:=b
     simp only
     cases cb L loc n2 w els<;>rfl
def dJ(L:List Nm)(loc mo:Nat)(s:St):List Nm×Nat×Nat:=match s with
 | .mk k _ _ nm _ _ _ _ _ _ _ _ _=>if k=1 then (L++[Nm.mk nm 0 loc],loc+1,max mo (loc+1)) else (L,loc,mo)
theorem hX(L:List Nm)(loc n mo:Nat)(s:St)(r:List St):cb L loc n mo (s::r)=(match ly L loc n mo s with
  | .error e=> .error e
  | .ok (w,n2,g)=>gn (fun q=> (w::q.1,q.2)) (cb (dJ L loc g s).1 (dJ L loc g s).2.1 n2 (dJ L loc g s).2.2 r)):=by
 rw[cb]
 cases ly L loc n mo s with
 |error e=>rfl
 |ok q=>
  let ⟨w,n2,g⟩:=q
  let ⟨k,l,c,nm,t,x,y,body,els,id,sl,ot,lo⟩:=s
  by_cases j:k=1
  .subst j
   show (match cb (L++[Nm.mk nm 0 loc]) (loc+1) n2 (max g (loc+1)) r with| .error e=>_| .ok (r',n3,mo3)=>_)=gn _ (cb (L++[Nm.mk nm 0 loc]) (loc+1) n2 (max g (loc+1)) r)
   cases cb (L++[Nm.mk nm 0 loc]) (loc+1) n2 (max g (loc+1)) r<;>rfl
  .simp only[dJ,am j]
   cases cb L loc n2 g r<;>rfl
mutual
theorem xR:∀ (s:St) (L:List Nm) (loc n mo:Nat) (s':St) (n2 mo2:Nat),ly L loc n mo s= .ok (s',n2,mo2)->n<=512->n2<=512
 | .mk k l c s t x y body els id sl ot lo,L,loc,n,mo,s',n2,mo2,h,hn=>by
  rw[my]at h
  split at h
  .cases h
  rename_i h5
  cases hy:hM L (l,c) y with
  |error e=>rw[hy]at h;cases h
  |ok y'=>
   rw[hy]at h
   cases hx:hM L (l,c) x with
   |error e=>rw[hx]at h;cases h
   |ok x'=>
    rw[hx]at h
    cases hq:dW L loc (l,c) k s t sl ot lo with
    |error e=>rw[hq]at h;cases h
    |ok q=>
     rw[hq]at h
     simp only[nf]at h
     cases hb:cb L loc (n+1) mo body with
     |error e=>rw[hb]at h;cases h
     |ok b=>
      obtain⟨b,n3,mo3⟩:=b
      rw[hb]at h
      have h3:=kL body L loc (n+1) mo b n3 mo3 hb (by omega)
      simp only at h
      cases he:cb L loc n3 mo3 els with
      |error e=>rw[he]at h;cases h
      |ok b2=>
       obtain⟨b2,n4,mo4⟩:=b2
       rw[he]at h
       cases h
       exact kL els L loc n3 mo3 b2 n2 mo2 he h3
theorem kL:∀ (r:List St) (L:List Nm) (loc n mo:Nat) (r':List St) (n2 mo2:Nat),cb L loc n mo r= .ok (r',n2,mo2)->n<=512->n2<=512
 | [],L,loc,n,mo,r',n2,mo2,h,hn=>by
  rw[cb]at h
  cases h
  exact hn
 |s::r,L,loc,n,mo,r',n2,mo2,h,hn=>by
  rw[hX]at h
  cases hs:ly L loc n mo s with
  |error e=>rw[hs]at h;cases h
  |ok q=>
   obtain⟨s',n3,mo3⟩:=q
   rw[hs]at h
   have h3:=xR s L loc n mo s' n3 mo3 hs hn
   simp only at h
   cases hr:cb (dJ L loc mo3 s).1 (dJ L loc mo3 s).2.1 n3 (dJ L loc mo3 s).2.2 r with
   |error e=>rw[hr]at h;cases h
   |ok b=>
    obtain⟨b,n4,mo4⟩:=b
    rw[hr]at h
    cases h
    exact kL r _ _ _ _ b n2 mo2 hr h3
end
theorem qf:∀ (r:List St) (L:List Nm) (loc n mo:Nat) (j:List St) (n2 g:Nat),cb L loc n mo r= .ok (j,n2,g)->j.length=r.length
 | [],L,loc,n,mo,j,n2,g,h=>by
  rw[cb]at h
  cases h
  rfl
 |s::r,L,loc,n,mo,j,n2,g,h=>by
  rw[hX]at h
  cases C:ly L loc n mo s with
  |error e=>rw[C]at h;cases h
  |ok q=>
   let ⟨E,n3,A⟩:=q
   rw[C]at h
   simp only at h
   cases w:cb (dJ L loc A s).1 (dJ L loc A s).2.1 n3 (dJ L loc A s).2.2 r with
   |error e=>rw[w]at h;cases h
   |ok b=>
    let ⟨b,n4,D⟩:=b
    rw[w]at h
    cases h
    simp[qf r _ _ _ _ b n2 g w]
def xu(D:PF):Prop:=D.loc<=32/\D.n<=512
def BP(w:Fk)(F g h:Nat)(fc:List Fr)(D:PF)(R:Except fT (List St×Nat×Nat))(e:GP)(w':Fk):Prop:=Kp w w' F g/\match R with
 | .error f=>e= .panicked [dd f]/\∃n mo,Fi w' F g h fc {D with n:=n,mo:=mo}
 | .ok (l,n,mo)=>Fi w' F g h fc {D with n:=n,mo:=mo}/\∃ (a:Option Addr) (cap:Nat),e= .returned (.slice a l.length cap)/\aF l.length cap/\aE (w.1.size<=·) w' a 0 l
def AV(w:Fk)(F g h:Nat)(fc:List Fr)(D:PF)(R:Except fT (St×Nat×Nat))(e:GP)(w':Fk):Prop:=Kp w w' F g/\match R with
 | .error f=>e= .panicked [dd f]/\∃n mo,Fi w' F g h fc {D with n:=n,mo:=mo}
 | .ok (s,n,mo)=>Fi w' F g h fc {D with n:=n,mo:=mo}/\∃cs,e= .returned (.agg cs.toArray)/\bX (w.1.size<=·) w' cs s
def nD(w0:Fk)(F g h:Nat)(fc:List Fr)(l:List St):Prop:=∀ (D:PF) (a:Option Addr) (cap:Nat) (w:Fk),aF l.length cap->aE (fun _=>True) w0 a 0 l->FM w0.1.size w0 w->Fi w F g h fc D->xu D->Jq prog 80 #[.pointer (some ⟨F,0,none⟩),.slice a l.length cap] w (BP w F g h fc D (cb D.L D.loc D.n D.mo l))
theorem pG{w':Fk}{F o:Nat}(C:Kp w w' F g)(D:c≠F)(A:c≠g)(j:w.cell? (ad c o)=some u):w'.cell? (ad c o)=some u:=by rw[<-j];simp[FI,C.block c (FF w _ j) D A]
structure Xs (w0 w:Fk) (F g h:Nat) (fc:List Fr) (D:PF) (sc:List Fr) (W:Fk):Prop where
 k:Kp w W F g
 f:Fi W F g h fc D
 s:ak W w.1.size 60 sc
 y:ak W (w.1.size+1) 60 yi
 b:FM w0.1.size w0 W
 lt:(F<w.1.size/\g<w.1.size/\h<w.1.size)/\w0.1.size<=F/\w0.1.size<=g
section
variable {w0 w W W':Fk} {F g h:Nat} {fc sc sc':List Fr} {D D':PF}
theorem Xs.sz(H:Xs w0 w F g h fc D sc W):w.1.size+2<=W.1.size:=H.y.lt
theorem Xs.Dy(H:Xs w0 w F g h fc D sc W)(j:FM (w.1.size+2) W W'):Xs w0 w F g h fc D sc W':=by have A:=H.lt;have G:=H.sz;exact⟨⟨j.os.trans H.k.os,j.tape.trans H.k.tape,j.output.trans H.k.output,FU H.k.size j.size,fun c C A E=> (j.block c (by omega)).trans (H.k.block c C A E)⟩,H.f.below j (by omega) (by omega) (by omega),H.s.of (j.block _ (by omega)),H.y.of (j.block _ (by omega)),H.b.trans (j.mono (by omega)),H.lt⟩
theorem Xs.below(H:Xs w0 w F g h fc D sc W)(j:bL W W'):Xs w0 w F g h fc D sc W':=H.Dy (j.mono H.sz)
theorem Xs.Dw(H:Xs w0 w F g h fc D sc W)(E:ak W' w.1.size 60 sc')(j:Ch w.1.size W W'):Xs w0 w F g h fc D sc' W':=by have J:=H.lt;refine⟨?_,H.f.ch j (by omega) (by omega) (by omega),E,j.CV (by omega) H.y,j.below (by omega) H.b,H.lt⟩;have A:=j.kp;exact⟨A.os.trans H.k.os,A.tape.trans H.k.tape,A.output.trans H.k.output,FU H.k.size A.size,fun c j C G=> (A.block c (FJ j H.k.size) (by omega) (by omega)).trans (H.k.block c j C G)⟩
theorem Xs.call(H:Xs w0 w F g h fc D sc W)(j:Kp W W' F g)(A:Fi W' F g h fc D'):Xs w0 w F g h fc D' sc W':=by have E:=H.lt;have C:=H.sz;exact⟨H.k.trans j,A,H.s.kp j (by omega) (by omega),H.y.kp j (by omega) (by omega),j.Dx H.b (by omega) (by omega) (by omega),H.lt⟩
theorem Xs.Dc(H:Xs w0 w F g h fc D sc W)(j:Nat)(v:Fr)(D':PF)(A:D'.L=D.L)(C:(eD g h D).set j v=eD g h D'):Xs w0 w F g h fc D' sc (W.setCell (ad F (13+j)) v):=H.call ((Kp.refl W F g).Dg (13+j) v) (H.f.set j v D' A C)
end
def rI(D:PF)(p:Int×Int)(s:ByteArray):Except fT Unit:=if (ex D.L s).isSome then .error (p,130) else if D.loc=32 then .error (p,134) else .ok ()
def CF(w:Fk)(sb:Nat)(C:List Fr)(R:Except fT Unit)(e:GP)(w':Fk):Prop:=match R with
 | .error f=>e= .panicked [dd f]/\FM w.1.size w w'
 | .ok _=>e= .returned (.tuple #[])/\ak w' sb 60 C/\Kp w w' sb sb
theorem um{F h sb:Nat}{fc:List Fr}{D:PF}(H:Fi w F g h fc D){k l c:Int}{bv ev:Fr}{id sl ot:Int}{lo:Bool}(hS:ak w sb 60 (cO k l c s t l2 l3 bv ev id sl ot lo))(S:l2.length=7)(N:l3.length=7)(a9:F≠sb/\g≠sb/\h≠sb):
  Jq prog 149 #[Pt F,Pt sb] w (CF w sb (cO k l c s t l2 l3 bv ev id (D.loc:Int) ot true) (rI D (l,c) s)):=by
 let ⟨i4,z4,c8,b9,d1⟩:=eR
 have b4:prog.follows .mixedOrders=true:=by kernel_rfl
 let ⟨R,G⟩:=eX (rI D (l,c) s)
 rw[G];unfold rI at G;let ⟨r,hr⟩:=eX (ex D.L s)
 rw[hr]at G;have Y:=O G;have b7:=O hr;have J:=O (bR z S N (C:=cO k l c s t l2 l3 bv ev id sl ot lo));have a7:=O (fun v (i:Int) (b:Bool)=>cC (k:=k) (l:=l) (c:=c) (s:=s) (t:=t) (bv:=bv) (ev:=ev) (id:=id) (sl:=sl) (ot:=ot) (lo:=lo) S N v i b);have b6:=O (fun v (i:Int) (b:Bool)=>cC (k:=k) (l:=l) (c:=c) (s:=s) (t:=t) (bv:=bv) (ev:=ev) (id:=id) (sl:=(D.loc:Int)) (ot:=ot) (lo:=lo) S N v i b);have c9:Hid ((cO k l c s t l2 l3 bv ev id sl ot lo).length=25):=O (by simp[cO,S,N]);let ⟨d3,a3⟩:=eX (cO k l c s t l2 l3 bv ev id sl ot lo)
 rw[a3]at hS J a7 c9;clear G hr S N a3;have d6:=O a9;clear a9;go_in;refine wk fun KK a8=>?_;let ⟨A,X⟩:=eX (w.drew)
 have j:Hid (Fi A F g h fc D/\ak A sb 60 d3):=O (by rw[<-X];exact⟨H.up (FB _ w).drew,hS.drew⟩);have a0:Hid (bL w A):=O (by rw[<-X];exact(FB _ w).drew);have b5:A.1.size=w.1.size:=by rw[<-X];rfl
 have M:Hid (F<A.1.size/\g<A.1.size/\h<A.1.size/\sb<A.1.size/\w.1.size=A.1.size):=O ⟨j.1.EH.1,j.1.EH.2.1,j.1.EH.2.2,j.2.lt,b5.symm⟩;clear H hS;go_wp2;apply al [] (fun W=>Fi W F g h fc D/\ak W sb 60 d3) b4;rw[X];clear X;apply ke 0;apply fK _ 3 (fun W1 K=>K.1.c13);refine nm ?_;apply ke 4;apply fK _ 7 (fun W1 K=> (K.2.cell 3).trans J.2.2.2.1);refine nm ?_;refine aM 8 (some 15) (v:=?_) z z (by kernel_rfl) (fun _ _ _ h=>h) j (GJ ⟨by rfl,?_⟩) ?_;rotate_left
 .intro W1 K;have d0:=jG K.1.m s;rw[mr,b7.o]at d0;go_simp;first|with_reducible rfl|rw[am (by omega)]
 apply ke 9;refine nm ?_;refine oD 12 fun a2 V=>?_;let ⟨bN,d2⟩:=eX (A.1.size)
 refine aw c8 b9 d1 z bN d2 ?_;intro V2 hk Z z2;have U:=O (EQ (j.1.up Z) (j.2.below Z));have KB:=O hk;have a5:=O (a0.trans (Z.mono a0.size));apply V _ _ (fun _=>U);clear V a2 hk Z j a0;refine nm ?_;refine oD 13 fun a2 V=>?_;refine an bY (.tmp 4) (.tmp 16) z bN [I (xH r),I (xM r)] _ z z KB z ⟨z,by simp[GZ]⟩ ?_;intro V3 k3 c3;have E:=O (EQ (U.1.ch c3 (by have:=U.1.EH;have:=M.o;omega) (by have:=M.o;omega) (by have:=M.o;omega)) (c3.CV (by have:=M.o;omega) U.2));have a1:=O (c3.below (by have:=M.o;omega) a5);apply V _ _ (fun _=>E);clear V a2 k3 c3 U a5 KB;apply fa 14;refine nm ?_;refine dn ?_;have G:=Y.o;rcases r with _|x;rotate_left
 .have Q:=O G.symm;clear Y G;have k1:=(E.2.cell 1).trans J.2.1;have k2:=(E.2.cell 2).trans J.2.2.1;go_wp2;rw[Q.o];exact⟨z,z,a1⟩
 go_wp2;apply a8;clear a8 KK;have c17:=E.1.c17;have k1:=(E.2.cell 1).trans J.2.1;have k2:=(E.2.cell 2).trans J.2.2.1;by_cases hl:D.loc=32
 .have b8:(D.loc:Int)=32:=by omega
  have Q:Hid (R= .error ((l,c),134)):=O (by rw[<-G,am (by simp),aD hl]);clear Y G;go_wp2;rw[Q.o];exact⟨z,z,a1⟩
 .have b8:¬ (D.loc:Int)=32:=by omega
  have Q:Hid (R= .ok ()):=O (by rw[<-G,am (by simp),am hl]);clear Y G;have d4:=(E.2.cell 22).trans J.2.2.2.2.2.2.2.2.1;have d7:=(E.2.cell 24).trans J.2.2.2.2.2.2.2.2.2.2;have d5:=E.2.frozen;have a6:ak ((V3.setCell (ad sb 22) (I D.loc)).setCell (ad sb 24) (.bool true)) sb 60 (cO k l c s t l2 l3 bv ev id (D.loc:Int) ot true):=by have h1:=E.2.set1 22 (I D.loc);rw[(a7.o (.slice none 0 0) (D.loc:Int) false).2.2.2.1]at h1;have h2:=h1.set1 24 (.bool true);rw[(b6.o (.slice none 0 0) (D.loc:Int) true).2.2.2.2.2]at h2;exact h2
  have a4:Kp w ((V3.setCell (ad sb 22) (I D.loc)).setCell (ad sb 24) (.bool true)) sb sb:=((Kp.below a1).Dg 22 _).Dg 24 _;have HE:=O (EQ a6 a4);clear a6 a4;go_wp2;go_end0;rw[Q.o];exact⟨z,HE⟩
theorem qn{F:Nat}(D:F<w.1.size/\g<w.1.size)(A:Kp W V F g){cs:List Fr}{x:Ex}(h:ExL (w.1.size+2<=·) W cs x):ExL (w.1.size+2<=·) V cs x:=h.keep fun c o u j C=>by have E:=j;exact pG A (by omega) (by omega) C
theorem yA{F:Nat}(D:F<w.1.size/\g<w.1.size)(A:Kp W V F g){l:List St}(h:aE (w.1.size+2<=·) W a 0 l):aE (w.1.size+2<=·) V a 0 l:=aE.keep (fun c o u j C=>by have E:=j;exact pG A (by omega) (by omega) C) h
theorem Ch.exW(j:Ch b W V)(D:b<w.1.size+2){cs:List Fr}{x:Ex}(h:ExL (w.1.size+2<=·) W cs x):ExL (w.1.size+2<=·) V cs x:=h.keep fun c o u g A=>by have C:=g;rw[j.cell (by omega)];exact A
theorem Ch.Ey(j:Ch b W V)(D:b<w.1.size+2){l:List St}(h:aE (w.1.size+2<=·) W a 0 l):aE (w.1.size+2<=·) V a 0 l:=aE.keep (fun c o u g A=>by have C:=g;rw[j.cell (by omega)];exact A) h
theorem ih{F h:Nat}{fc:List Fr}{D:PF}{k l c:Int}{x y:Ex}{body els:List St}{id sl ot:Int}{lo:Bool}(HI:Hid (xu D))(HS:Hid (Xs w0 w F g h fc D (cO k l c s t l2 l3 (.slice a0 body.length j) (.slice a1 els.length n0) id sl ot lo) W))
  (HX:Hid (ExL (w.1.size+2<=·) W l2 x))(HY:Hid (ExL (w.1.size+2<=·) W l3 y))(HB:Hid (aF body.length j/\aE (fun _=>True) w0 a0 0 body))(HE:Hid (aF els.length n0/\aE (fun _=>True) w0 a1 0 els))(IB:Hid (nD w0 F g h fc body))(IE:Hid (nD w0 F g h fc els)){R:Except fT (St×Nat×Nat)}
  (HR:Hid (R=nf D.L D.loc D.n D.mo (fun b e=> .mk k l c s t x y b e id sl ot lo) body els))(hU:l4.length=105:=by rfl):
  FR prog (Jp 8 (f117.body.getD .skip)) (Gb prog f117 (AV w F g h fc D R)) ⟨(Pt F::v0::v1::Pt w.1.size::Pt (w.1.size+1)::l4).toArray,[]⟩ W:=by
 revert l4;apply aN;iterate 105 intro _
 change FR _ _ _ _ _;obtain⟨h9,d9,g2⟩:=hj;have h7:prog.follows .mixedOrders=true:=by kernel_rfl
 have Y:=O HX.cells;have a6:=O HY.cells;have J:=O HS.lt;have f7:=O (kL body D.L D.loc D.n D.mo);have A:=HR.o;unfold nf at A;have f0:=O A;have e7:=O (qf body D.L D.loc D.n D.mo);have b8:=O (bR z Y.1 a6.1 (C:=cO k l c s t l2 l3 (.slice a0 body.length j) (.slice a1 els.length n0) id sl ot lo));have d0:Hid ((cO k l c s t l2 l3 (.slice a0 body.length j) (.slice a1 els.length n0) id sl ot lo).length=25):=O (by simp[cO,Y.o.1,a6.o.1]);clear HR A;have g3:=O (fun G=>IB D a0 j G HB.1 HB.2);have f4:=O (fun D2 G=>IE D2 a1 n0 G HE.1 HE.2);clear IB IE HB HE;obtain⟨NB,d4⟩:=eX (body.length);obtain⟨NE,d1⟩:=eX (els.length);rw[d4]at HS b8 d0;rw[d1]at HS b8 d0;try simp only[d4]at g3
 try simp only[d1]at f4
 clear d4 d1;conv in (Jp _ _)=>whnf
 refine wk fun KK e5=>?_;obtain⟨G,hV⟩:=eX (W.drew);have N:Hid (Xs w0 w F g h fc D (cO k l c s t l2 l3 (.slice a0 NB j) (.slice a1 NE n0) id sl ot lo) G):=O (by rw[<-hV];exact HS.below (FB _ W).drew);have g1:Hid (ExL (w.1.size+2<=·) G l2 x):=O (by rw[<-hV];exact HX.keep fun b o v _ hv=>ai (FB _ W).drew b o v hv);have g7:Hid (ExL (w.1.size+2<=·) G l3 y):=O (by rw[<-hV];exact HY.keep fun b o v _ hv=>ai (FB _ W).drew b o v hv);clear HS HX HY;go_wp2;apply al [9,10,11] (fun W=>ak W w.1.size 60 (cO k l c s t l2 l3 (.slice a0 NB j) (.slice a1 NE n0) id sl ot lo)) h7;rw[hV];clear hV;have a2:=O N.s;refine nk 0 ?_;refine fK _ 2 (fun W1 d7=> (d7.cell 19).trans b8.o.2.2.2.2.2.1) ?_;refine fa 4 ?_
 refine nm ?_;refine fa 5 ?_;refine fK _ 6 (fun W1 d7=> (d7.cell 20).trans b8.o.2.2.2.2.2.2.1) ?_;refine nm ?_;refine oD 3 fun K E=>?_;go_simp;apply (g3 G N.b N.f HI).mono;rintro e V2 ⟨a8,M⟩;obtain⟨r,hr⟩:=eX (cb D.L D.loc D.n D.mo body);have A:=f0.o;have d5:=f7.o;have f9:=e7.o;rw[hr]at M A d5 f9;clear hr f0 f7 e7;rcases r with er|⟨b',n2,f1⟩
 .obtain⟨rfl,n3,d2,H⟩:=M;rw[A];exact⟨z,(N.call a8 H).k,z,n3,d2,H⟩
 obtain⟨H,V,a5,rfl,e4,g5⟩:=M;have e6:=O A;have f6:Hid (xu {D with n:=n2,mo:=f1}):=O ⟨HI.1,d5 _ _ _ z HI.2⟩;have Q:=O (N.call a8 H);have f8:=O (qn ⟨J.1.1,J.1.2.1⟩ a8 g1);have e3:=O (qn ⟨J.1.1,J.1.2.1⟩ a8 g7);have d8:Hid (aF b'.length a5/\aE (w.1.size+2<=·) V2 V 0 b'):=O ⟨e4,aE.CQ (fun c U=>by have h2:=U;have:=N.sz;show w.1.size+2<=c;omega) g5⟩;have e9:=O Q.s;apply E _ _ (fun _=>e9);clear E K A d5 f9 a8 H e4 g5 N g1 g7 a2 HI;refine oD 7 fun K E=>?_;go_simp;apply (f4 _ V2 Q.b Q.f f6).mono;rintro e V3 ⟨Z,M⟩;obtain⟨r,hr⟩:=eX (cb D.L D.loc n2 f1 els);have A:=e6.o;simp only at A M;rw[hr]at M A;clear hr e6;rcases r with er|⟨c',n4,h0⟩
 .obtain⟨rfl,n3,d2,H⟩:=M;rw[A];exact⟨z,(Q.call Z H).k,z,n3,d2,H⟩
 obtain⟨H,a3,b5,rfl,f2,e0⟩:=M;have g9:=O A;have c8:=O (Q.call Z H);have f5:=O (qn ⟨J.1.1,J.1.2.1⟩ Z f8);have f3:=O (qn ⟨J.1.1,J.1.2.1⟩ Z e3);have g6:Hid (aF b'.length a5/\aE (w.1.size+2<=·) V3 V 0 b'):=O ⟨d8.1,yA ⟨J.1.1,J.1.2.1⟩ Z d8.2⟩;have g4:Hid (aF c'.length b5/\aE (w.1.size+2<=·) V3 a3 0 c'):=O ⟨f2,aE.CQ (fun c U=>by have h2:=U;have:=Q.sz;show w.1.size+2<=c;omega) e0⟩;have e2:=O c8.s;apply E _ _ (fun _=>e2);clear E K A Z H f2 e0 Q f8 e3 e9 d8 f6;refine fa 8 ?_;refine nm ?_;refine oD 9 fun K E=>?_;refine aA (by kernel_rfl) (.tmp 107) (.tmp 102) z w.1.size 19 60 (.slice V b'.length a5) _ z z z z c8.s (by rw[d0.o];decide) ?_;intro V4 k4 c4
 rw[(cC Y.o.1 a6.o.1 (.slice V b'.length a5) 0 false).1]at k4;have d6:=O (c8.Dw k4 c4);have a7:=O (EQ (c4.exW (by omega) f5) (EQ (c4.exW (by omega) f3) (EQ (c4.Ey (by omega) g6.2) (c4.Ey (by omega) g4.2))));apply E _ _ nofun;clear E K k4 c4 c8 f5 f3;refine oD 10 fun K E=>?_;go_simp;apply E _ _ nofun;clear E K;refine oD 11 fun K E=>?_;refine aA (by kernel_rfl) (.tmp 108) (.tmp 106) z w.1.size 20 60 (.slice a3 c'.length b5) _ z z z z d6.s (by simp[cO,Y.o.1,a6.o.1]) ?_;intro V5 k5 c5;rw[(cC Y.o.1 a6.o.1 (.slice a3 c'.length b5) 0 false).2.1]at k5;have b4:=O (d6.Dw k5 c5)
 have b6:=O (EQ (c5.exW (by omega) a7.1) (EQ (c5.exW (by omega) a7.2.1) (EQ (c5.Ey (by omega) a7.2.2.1) (c5.Ey (by omega) a7.2.2.2))));apply E _ _ nofun;clear E K k5 c5 d6 a7;simp only[Act.put];refine dn ?_;go_wp2;apply e5;clear e5 KK;obtain⟨S,b9⟩:=eX (cO k l c s t l2 l3 (.slice V b'.length a5) (.slice a3 c'.length b5) id sl ot lo);have h6:=O b9;have e1:Hid (S.length=25/\∀v∈S,v.oneCell'=true):=O (by rw[<-b9];exact hk Y.o a6.o);rw[b9]at b4;clear b9;have e8:=e1.o.1;go_wp2_with (first
  | (with_reducible refine l0 60 ?_;refine ac d9 g2 ar z (.tmp 3) z w.1.size S z (O b4.o.s) e8 ?_)
  | (with_reducible refine s0 60 ?_;refine af ar z (.tmp 4) (.tmp 109) z (w.1.size+1) S _ z z b4.o.y z e1.o ?_;intro V9 k9 c9;have X:=O (EQ k9 c9);clear k9 c9)
 )
 refine aC d9 g2 ar X.o.1 e8 z z z ?_;rw[g9.o];have h8:=J.o;have g8:=b4.f.ch X.2 (by omega) (by omega) (by omega);have a9:=X.2.kp;have h5:Kp w V9 F g:=by have h1:=b4.k;exact⟨a9.os.trans h1.os,a9.tape.trans h1.tape,a9.output.trans h1.output,FU h1.size a9.size,fun c U h3 h4=> (a9.block c (FJ U h1.size) (by omega) (by omega)).trans (h1.block c U h3 h4)⟩
 refine⟨h5,g8,S,z,?_⟩;rw[<-h6.o];have b7:∀c,w.1.size+2<=c->w.1.size<=c:=fun c U=>by omega
 unfold bX;exact⟨l2,l3,V,a3,a5,b5,z,ExL.CQ b7 (X.2.exW (by omega) b6.1),ExL.CQ b7 (X.2.exW (by omega) b6.2.1),g6.1,aE.CQ b7 (X.2.Ey (by omega) b6.2.2.1),g4.1,aE.CQ b7 (X.2.Ey (by omega) b6.2.2.2)⟩
def oy(k:Int):Option (Nat×Nat×Bool×Bool):=if k=2 then some (1,0,true,false) else if k=3 then some (2,0,false,false) else if k=6 then some (3,0,false,false) else if k=7 then some (3,0,false,false) else if k=8 then some (4,3,false,false) else if k=9 then some (4,0,false,false) else if k=10 then some (4,0,false,false) else if k=11 then some (5,0,false,false) else if k=12 then some (5,1,false,true) else if k=13 then some (6,0,false,false) else none
theorem qY{k:Int}{a:Nat}{p q:Bool}(h:oy k=some (a,b,p,q)):(b=0/\q=false)∨(b≠0/\p=false):=by
 unfold oy at h;repeat' split at h
 all_goals first| (cases h;simp)|cases h
def fG(L:List Nm)(p:Int×Int)(k:Int)(s t:ByteArray)(sl ot:Int)(lo:Bool):Except fT (Int×Int×Bool):=match oy k with
 |none=> .ok (sl,ot,lo)
 |some (a,b,p1,q1)=>match hs L s a p1 p with
  | .error e=> .error e
  | .ok x=>if b=0 then .ok ((x.slot:Int),ot,if p1 then decide (x.kind=0) else lo) else match hs L t b q1 p with
   | .error e=> .error e
   | .ok y=> .ok ((x.slot:Int),(y.slot:Int),if q1 then decide (y.kind=0) else if p1 then decide (x.kind=0) else lo)
theorem lU(L:List Nm)(loc:Nat)(p:Int×Int)(k:Int)(s t:ByteArray)(sl ot:Int)(lo:Bool):dW L loc p k s t sl ot lo=if k=1 then (if (ex L s).isSome then .error (p,130) else if loc=32 then .error (p,134) else .ok ((loc:Int),ot,true)) else fG L p k s t sl ot lo:=by
 unfold dW;by_cases H:k=1
 .simp only[aD H]
 simp only[am H];unfold fG nY kJ oy;by_cases F:k=2
 .subst F;rfl
 by_cases C:k=3
 .subst C;rfl
 by_cases D:k=6
 .subst D;rfl
 by_cases E:k=7
 .subst E;rfl
 by_cases J:k=8
 .subst J;rfl
 by_cases w:k=9
 .subst w;rfl
 by_cases g:k=10
 .subst g;rfl
 by_cases j:k=11
 .subst j;rfl
 by_cases G:k=12
 .subst G;rfl
 by_cases A:k=13
 .subst A;rfl
 simp only[F,C,D,E,J,w,g,j,G,A,if_false,or_self]
section
variable {L:List Nm} {p:Int×Int} {k:Int} {s t:ByteArray} {sl ot:Int} {lo:Bool} {a b:Nat} {p1 q1:Bool} {x y:Nm} {e:fT}
theorem kK(h:oy k=none):fG L p k s t sl ot lo= .ok (sl,ot,lo):=by unfold fG;rw[h]
theorem oY(h:oy k=some (a,b,p1,q1))(g:hs L s a p1 p= .error e):fG L p k s t sl ot lo= .error e:=by unfold fG;rw[h];simp only[g]
theorem lS(h:oy k=some (a,0,p1,q1))(g:hs L s a p1 p= .ok x):fG L p k s t sl ot lo= .ok ((x.slot:Int),ot,if p1 then decide (x.kind=0) else lo):=by unfold fG;rw[h];simp only[g,if_true]
theorem pw(h:oy k=some (a,b,p1,q1))(g:b≠0)(w:hs L s a p1 p= .ok x)(j:hs L t b q1 p= .error e):fG L p k s t sl ot lo= .error e:=by unfold fG;rw[h];simp only[w,j,am g]
theorem lI(h:oy k=some (a,b,p1,q1))(g:b≠0)(w:hs L s a p1 p= .ok x)(j:hs L t b q1 p= .ok y):fG L p k s t sl ot lo= .ok ((x.slot:Int),(y.slot:Int),if q1 then decide (y.kind=0) else if p1 then decide (x.kind=0) else lo):=by unfold fG;rw[h];simp only[w,j,am g]
end
def wH(r:Option (Nat×Nat×Bool×Bool)):List Fr:=match r with
 |none=> [.int .i64 0,.int .i64 0,.bool false,.bool false]
 |some (a,b,p,q)=> [.int .i64 (a:Int),.int .i64 (b:Int),.bool p,.bool q]
theorem wf(r:Option (Nat×Nat×Bool×Bool)):(wH r).length=4/\∀v∈wH r,v.oneCell'=true:=by
 rcases r with _|⟨a,b,p,q⟩;all_goals
  refine⟨z,fun v g=>?_⟩;simp only[wH,FQ,FO,or_false]at g;rcases g with rfl|rfl|rfl|rfl<;>rfl
theorem mp:prog.underlying 98=some (.map 53 167):=by kernel_rfl
theorem hi:prog.underlying 53=some (.int .i64):=by kernel_rfl
theorem wo:∃i z,prog.info? 167=some i/\i.zero=some z/\z.cells=(wH none).toArray:=fH (by kernel_rfl)
theorem xi:(prog.info? 167).map (·.size)=some 4:=by kernel_rfl
theorem dx:(prog.info? 3).map (·.size)=some 1:=by kernel_rfl
theorem xK:(prog.info? 4).map (·.size)=some 1:=by kernel_rfl
theorem wz(k:Int):∃i,Hc (.int .i64) (I k) gA 0=some ((oy k).map fun q=> (i,.agg (wH (some q)).toArray)):=by
 unfold oy;by_cases D:k=2
 .subst D;exact⟨0,z⟩
 by_cases C:k=3
 .subst C;exact⟨1,z⟩
 by_cases E:k=6
 .subst E;exact⟨2,z⟩
 by_cases F:k=7
 .subst F;exact⟨3,z⟩
 by_cases G:k=8
 .subst G;exact⟨4,z⟩
 by_cases w:k=9
 .subst w;exact⟨5,z⟩
 by_cases g:k=10
 .subst g;exact⟨6,z⟩
 by_cases H:k=11
 .subst H;exact⟨7,z⟩
 by_cases J:k=12
 .subst J;exact⟨8,z⟩
 by_cases A:k=13
 .subst A;exact⟨9,z⟩
 refine⟨0,?_⟩;have e:∀j:Int,¬k=j->(k==j)=false:=fun j h=>by simpa using h
 simp[Hc,Instr.sameNow,gA,wE,D,C,E,F,G,w,g,H,J,A,e 2 D,e 3 C,e 6 E,e 7 F,e 8 G,e 9 w,e 10 g,e 11 H,e 12 J,e 13 A]
theorem uQ(h:w.1[g]? =some (.map gA.toArray 10))(k:Int):
  (Hx 98 (.map (some g)) (I k) true).run prog w= .ok (.tuple #[.agg (wH (oy k)).toArray,.bool (oy k).isSome]) w:=by
 have A:GQ (.int .i64) (I k):=by simp[GQ]
 let ⟨i,C⟩:=wz k
 have j:Hc (.int .i64) (I k) gA.toArray.toList 0=some ((oy k).map fun q=> (i,.agg (wH (some q)).toArray)):=by simpa using C
 rcases hx:oy k with _|q;all_goals rw[hx]at j
 .simp[Hx,Hg mp,GK h,GR hi A,GW hi j,Result.andThen,wH]
 .simp[Hx,Hg mp,GK h,GR hi A,GW hi j,Result.andThen]
def Ms(w0 w:Fk)(F g h:Nat)(fc:List Fr)(D:PF)(sc xc yc:List Fr)(x y:Ex)(W:Fk):Prop:=Xs w0 w F g h fc D sc W/\ExL (w.1.size+2<=·) W xc x/\ExL (w.1.size+2<=·) W yc y
section
variable {w0 w W W':Fk} {F g h:Nat} {fc sc sc' xc yc:List Fr} {D:PF} {x y:Ex}
theorem Ms.below(H:Ms w0 w F g h fc D sc xc yc x y W)(A:bL W W'):Ms w0 w F g h fc D sc xc yc x y W':=⟨H.1.below A,H.2.1.keep fun b o u _ j=>ai A b o u j,H.2.2.keep fun b o u _ j=>ai A b o u j⟩
theorem Ms.Dw(H:Ms w0 w F g h fc D sc xc yc x y W)(A:ak W' w.1.size 60 sc')(j:Ch w.1.size W W'):Ms w0 w F g h fc D sc' xc yc x y W':=⟨H.1.Dw A j,j.exW (by omega) H.2.1,j.exW (by omega) H.2.2⟩
theorem Ms.lt(H:Ms w0 w F g h fc D sc xc yc x y W):w.1.size+2<=W.1.size:=H.1.sz
end
theorem xQ{F h:Nat}{fc:List Fr}{D:PF}{k l c:Int}{x y:Ex}{body els:List St}{id sl ot:Int}{lo:Bool}(HI:Hid (xu D))(HS:Hid (Xs w0 w F g h fc D (cO k l c s t l2 l3 (.slice a0 body.length j) (.slice a1 els.length n0) id sl ot lo) W))
  (HX:Hid (ExL (w.1.size+2<=·) W l2 x))(HY:Hid (ExL (w.1.size+2<=·) W l3 y))(HB:Hid (aF body.length j/\aE (fun _=>True) w0 a0 0 body))(HE:Hid (aF els.length n0/\aE (fun _=>True) w0 a1 0 els))(IB:Hid (nD w0 F g h fc body))(IE:Hid (nD w0 F g h fc els)){R:Except fT (St×Nat×Nat)}
  (HR:Hid (R=(match fG D.L (l,c) k s t sl ot lo with| .error e=> .error e| .ok q=>nf D.L D.loc D.n D.mo (fun b e=> .mk k l c s t x y b e id q.1 q.2.1 q.2.2) body els)))(hU:l4.length=105:=by rfl):
  FR prog (Jp 7 (f117.body.getD .skip)) (Gb prog f117 (AV w F g h fc D R)) ⟨(Pt F::v0::v1::Pt w.1.size::Pt (w.1.size+1)::l4).toArray,[]⟩ W:=by
 revert l4;apply aN;iterate 105 intro _
 change FR _ _ _ _ _;obtain⟨i4,z4,d0,e0,d7⟩:=eR;obtain⟨d4,h0,h3⟩:=hQ;obtain⟨i7,z7,i0,h7,h9⟩:=wo;have h5:prog.follows .mixedOrders=true:=by kernel_rfl
 have e5:=O HX.o.cells;have f5:=O HY.o.cells;have f2:=O (bR z e5.o.1 f5.o.1 (C:=cO k l c s t l2 l3 (.slice a0 body.length j) (.slice a1 els.length n0) id sl ot lo));have a7:Hid (∀ (sl ot:Int) (lo:Bool),(cO k l c s t l2 l3 (.slice a0 body.length j) (.slice a1 els.length n0) id sl ot lo).length=25):=O fun _ _ _=>by simp[cO,e5.o.1,f5.o.1]
 have a8:=O (fun (sl ot:Int) (lo:Bool) v (i:Int) (b:Bool)=>cC (k:=k) (l:=l) (c:=c) (s:=s) (t:=t) (bv:= .slice a0 body.length j) (ev:= .slice a1 els.length n0) (id:=id) (sl:=sl) (ot:=ot) (lo:=lo) e5.o.1 f5.o.1 v i b);conv in (Jp _ _)=>whnf
 refine wk fun KK d5=>?_;obtain⟨f4,hV⟩:∃f4,W.drew=f4:=⟨_,z⟩;have J:Hid (Ms w0 w F g h fc D (cO k l c s t l2 l3 (.slice a0 body.length j) (.slice a1 els.length n0) id sl ot lo) l2 l3 x y f4):=O (by rw[<-hV];exact Ms.below ⟨HS.o,HX.o,HY.o⟩ (FB _ W).drew);clear HS HX HY;obtain⟨r,Z⟩:∃r,oy k=r:=⟨_,z⟩;have a2:=O Z;clear Z;go_wp2_with fail;refine al [] (fun W=>Ms w0 w F g h fc D (cO k l c s t l2 l3 (.slice a0 body.length j) (.slice a1 els.length n0) id sl ot lo) l2 l3 x y W) h5 ?_;rw[hV];clear hV;refine tk 0 (some 50) J ?_;refine tk 1 (some 51) J ?_;refine tk 2 (some 52) J ?_;refine tf _ 3 (some 53) J (fun W1 b7=>b7.1.f.c14) ?_;refine nm ?_;refine tk 4 (some 54) J ?_
 refine tf _ 5 (some 55) J (fun W1 b7=> (b7.1.s.cell 0).trans f2.o.1) ?_;refine aM 6 (some 56) (v:=?_) z z (by kernel_rfl) (fun _ _ _ h=>h) J.o (GJ ⟨by rfl,?_⟩) ?_;rotate_left
 .intro W1 b7;have i1:=uQ b7.1.f.wm k;rw[a2.o]at i1;clear b7;go_simp;first|with_reducible rfl|rw[am (by omega)]
 refine tk 7 (some 49) J ?_;refine nm ?_;refine tk 8 (some 57) J ?_;refine tk 9 (some 58) J ?_;refine nm ?_;refine oD 10 fun g4 hK=>?_;obtain⟨G,f7⟩:∃b,f4.1.size=b:=⟨_,z⟩;have Y:Hid (w.1.size+2<=G):=O (by rw[<-f7];exact J.o.lt);refine aw i0 h7 h9 z G f7 ?_;intro V2 hk E z2;have KB:=O hk;have g3:=O (EQ E f7);have h1:=O (J.o.below E);refine hK _ _ (fun _=>h1.o) ?_;clear hK g4 hk E;refine nm ?_;refine oD 11 fun g4 hK=>?_;refine an xi (.tmp 5) (.tmp 57) z G (wH r) _ z z KB.o z (wf r) ?_;intro V3 k3 c3;have S:=O (J.o.below (c3.below (by rw[g3.o.2];omega) g3.o.1));have f6:=O k3;refine hK _ _ (fun _=>S.o) ?_;clear hK g4 k3 c3 h1 KB g3 J f7 z2;refine tk 12 (some 6) S ?_;refine nm ?_;refine dn ?_
 rcases r with _|⟨a,b,p1,q1⟩
 .go_wp2_with fail;refine d5.o _ _ ?_;have A:=HR.o;rw[kK a2.o]at A;exact ih HI (O S.o.1) (O S.o.2.1) (O S.o.2.2) HB HE IB IE (O A)
 have e3:=(S.o.1.s.cell 3).trans f2.o.2.2.2.1;have k1:=(S.o.1.s.cell 1).trans f2.o.2.1;have k2:=(S.o.1.s.cell 2).trans f2.o.2.2.1;have i2:V3.cell? ⟨G,0,none⟩=some (I a):=f6.o.cell 0;have v2:V3.cell? ⟨G,2,none⟩=some (.bool p1):=f6.o.cell 2;have H:=gY S.o.1.f s a p1 (l,c);obtain⟨r,Z⟩:∃r,hs D.L s a p1 (l,c)=r:=⟨_,z⟩;rw[Z]at H;have c8:=O Z;clear Z;have h4:=O (qY a2.o);go_wp2_with fail;refine H.mono ?_;clear H e3 k1 k2 i2 v2;rintro e V4 ⟨E,hm⟩;have e2:=O (S.o.below E);have f3:=O (f6.o.below E);clear E S f6;rcases r with er|⟨xt,xk,xs⟩
 .obtain rfl:e= .panicked [dd er]:=hm;have A:=HR.o;rw[oY a2.o c8.o]at A;rw[A];exact⟨z,e2.o.1.k,z,D.n,D.mo,e2.o.1.f⟩
 obtain rfl:e= .returned (.agg #[I xk,I xs]):=hm;obtain⟨N,d8⟩:∃b,V4.1.size=b:=⟨_,z⟩;have b8:Hid (G<N/\V4.1.size=N):=O ⟨by rw[<-d8];exact f3.o.lt,d8⟩;have h8:=h4.o;clear h4;rcases h8 with ⟨rfl,rfl⟩|⟨g1,rfl⟩
 .cases p1 with
  |false=>
   go_wp2_with (first
    | ((with_reducible refine cp 7 (.alloc 104) ?_);refine ag d0 e0 d7 z z N d8 ?_;intro V5 k5 b5 s5;have K5:=O k5;have B5:=O b5;clear k5 b5)
    | ((with_reducible refine cY (.store 104 (.tmp 7) _) ?_);refine af bY z (.tmp 7) (.tmp 69) z N [I xk,I xs] _ z z K5.o z ⟨z,by simp[GZ]⟩ ?_;intro V6 k6 c6;have K6:=O k6;have V:=c6.below (by rw[b8.o.2];omega) B5.o;have a4:=O (e2.o.below V);have d6:=O (f3.o.below V);have x1:V6.cell? ⟨N,1,none⟩=some (I xs):=K6.o.cell 1;clear k6 c6 V K5 B5 s5)
    | ((with_reducible refine cY (.store 3 (.tmp 72) _) ?_);refine az dx z (.tmp 72) (.tmp 71) z w.1.size 22 60 (I xs) _ z z z z a4.o.1.s (by rw[a7.o];decide) ?_;intro U X c7;rw[(a8.o sl ot lo (.slice none 0 0) (xs:Int) false).2.2.2.1]at X;have K:=O (a4.o.Dw X c7);have M:=O (c7.CV (by have:=Y.o;omega) d6.o);have K7:=O (c7.CV (by have:=b8.o;have:=Y.o;omega) K6.o);clear X c7 x1;have w1:U.cell? ⟨G,1,none⟩=some (I (0)):=M.o.cell 1;have w2:U.cell? ⟨G,2,none⟩=some (.bool false):=M.o.cell 2)
    |fail)
   refine d5.o _ _ ?_;have A:=HR.o;rw[lS a2.o c8.o]at A;exact ih HI (O K.o.1) (O K.o.2.1) (O K.o.2.2) HB HE IB IE (O A)
  |true=>
   go_wp2_with (first
    | ((with_reducible refine cp 7 (.alloc 104) ?_);refine ag d0 e0 d7 z z N d8 ?_;intro V5 k5 b5 s5;have K5:=O k5;have B5:=O b5;clear k5 b5)
    | ((with_reducible refine cY (.store 104 (.tmp 7) _) ?_);refine af bY z (.tmp 7) (.tmp 69) z N [I xk,I xs] _ z z K5.o z ⟨z,by simp[GZ]⟩ ?_;intro V6 k6 c6;have K6:=O k6;have V:=c6.below (by rw[b8.o.2];omega) B5.o;have a4:=O (e2.o.below V);have d6:=O (f3.o.below V);have x1:V6.cell? ⟨N,1,none⟩=some (I xs):=K6.o.cell 1;clear k6 c6 V K5 B5 s5)
    | ((with_reducible refine cY (.store 3 (.tmp 72) _) ?_);refine az dx z (.tmp 72) (.tmp 71) z w.1.size 22 60 (I xs) _ z z z z a4.o.1.s (by rw[a7.o];decide) ?_;intro U X c7;rw[(a8.o sl ot lo (.slice none 0 0) (xs:Int) false).2.2.2.1]at X;have K:=O (a4.o.Dw X c7);have M:=O (c7.CV (by have:=Y.o;omega) d6.o);have K7:=O (c7.CV (by have:=b8.o;have:=Y.o;omega) K6.o);clear X c7 x1;have w1:U.cell? ⟨G,1,none⟩=some (I (0)):=M.o.cell 1;have w2:U.cell? ⟨G,2,none⟩=some (.bool true):=M.o.cell 2)
    | ((with_reducible refine gU _ (.load 104 _) ?_);refine ac h0 h3 bY z (.tmp 7) z N [I xk,I xs] z K7 z ?_)
    |fail)
   have H:=gd (xk:Int) (xs:Int) U;rw[show decide ((xk:Int)=0)=decide (xk=0) by simp]at H;obtain⟨bb,b4⟩:∃bb,decide (xk=0)=bb:=⟨_,z⟩;rw[b4]at H;have g6:=O b4;clear b4;refine H.mono ?_;clear H;rintro e V8 ⟨rfl,E⟩;have a5:=O (K.o.below E);have d3:=O (M.o.below E);clear E w1 w2 K M K7;go_wp2_with (first
    | ((with_reducible refine cY (.store 4 (.tmp 77) _) ?_);refine az xK z (.tmp 77) (.tmp 76) z w.1.size 24 60 (.bool bb) _ z z z z a5.o.1.s (by rw[a7.o];decide) ?_;intro V9 k9 c9;rw[(a8.o (xs:Int) ot lo (.slice none 0 0) 0 bb).2.2.2.2.2]at k9;have e8:=O (a5.o.Dw k9 c9);have h6:=O (c9.CV (by have:=Y.o;omega) d3.o);clear k9 c9;have w1:V9.cell? ⟨G,1,none⟩=some (I 0):=h6.o.cell 1)
    |fail)
   refine d5.o _ _ ?_;have A:=HR.o;rw[lS a2.o c8.o]at A;rw[<-g6.o]at e8;exact ih HI (O e8.o.1) (O e8.o.2.1) (O e8.o.2.2) HB HE IB IE (O A)
 .have i6:¬ (b:Int)=0:=by omega
  have H:=fun (W2:Fk) (H2:Fi W2 F g h fc D)=>gY H2 t b q1 (l,c);obtain⟨r,Z⟩:∃r,hs D.L t b q1 (l,c)=r:=⟨_,z⟩;rw[Z]at H;have g7:=O Z;have g9:=O H;clear Z H;have f8:=O (bR z e5.o.1 f5.o.1 (C:=cO k l c s t l2 l3 (.slice a0 body.length j) (.slice a1 els.length n0) id (xs:Int) ot lo));go_wp2_with (first
   | ((with_reducible refine cp 7 (.alloc 104) ?_);refine ag d0 e0 d7 z z N d8 ?_;intro V5 k5 b5 s5;have K5:=O k5;have B5:=O b5;clear k5 b5)
   | ((with_reducible refine cY (.store 104 (.tmp 7) _) ?_);refine af bY z (.tmp 7) (.tmp 69) z N [I xk,I xs] _ z z K5.o z ⟨z,by simp[GZ]⟩ ?_;intro V6 k6 c6;have K6:=O k6;have V:=c6.below (by rw[b8.o.2];omega) B5.o;have a4:=O (e2.o.below V);have d6:=O (f3.o.below V);have x1:V6.cell? ⟨N,1,none⟩=some (I xs):=K6.o.cell 1;clear k6 c6 V K5 B5 s5)
   | ((with_reducible refine cY (.store 3 (.tmp 72) _) ?_);refine az dx z (.tmp 72) (.tmp 71) z w.1.size 22 60 (I xs) _ z z z z a4.o.1.s (by rw[a7.o];decide) ?_;intro U X c7;rw[(a8.o sl ot lo (.slice none 0 0) (xs:Int) false).2.2.2.1]at X;have K:=O (a4.o.Dw X c7);have M:=O (c7.CV (by have:=Y.o;omega) d6.o);have K7:=O (c7.CV (by have:=b8.o;have:=Y.o;omega) K6.o);clear X c7 x1;have w1:U.cell? ⟨G,1,none⟩=some (I ((b:Int))):=M.o.cell 1;have w2:U.cell? ⟨G,2,none⟩=some (.bool false):=M.o.cell 2;have w3:U.cell? ⟨G,3,none⟩=some (.bool q1):=M.o.cell 3;have e4:=(K.o.1.s.cell 4).trans f8.o.2.2.2.2.1;have k1:=(K.o.1.s.cell 1).trans f8.o.2.1;have k2:=(K.o.1.s.cell 2).trans f8.o.2.2.1)
   |fail)
  refine(g9.o U K.o.1.f).mono ?_;clear g9 w1 w2 w3 e4 k1 k2;rintro e V8 ⟨E,hm⟩;have a5:=O (K.o.below E);have d3:=O (M.o.below E);clear E K M K7;rcases r with er|⟨yt,yk,Q⟩
  .obtain rfl:e= .panicked [dd er]:=hm;have A:=HR.o;rw[pw a2.o g1 c8.o g7.o]at A;rw[A];exact⟨z,a5.o.1.k,z,D.n,D.mo,a5.o.1.f⟩
  obtain rfl:e= .returned (.agg #[I yk,I Q]):=hm;obtain⟨bP,f0⟩:∃b,V8.1.size=b:=⟨_,z⟩;have e7:Hid (G<bP/\V8.1.size=bP):=O ⟨by rw[<-f0];exact d3.o.lt,f0⟩;cases q1 with
  |false=>
   go_wp2_with (first
    | ((with_reducible refine cp 8 (.alloc 104) ?_);refine ag d0 e0 d7 z z bP f0 ?_;intro V9 k9 b9 s9;have K9:=O k9;have B9:=O b9;clear k9 b9)
    | ((with_reducible refine cY (.store 104 (.tmp 8) _) ?_);refine af bY z (.tmp 8) (.tmp 90) z bP [I yk,I Q] _ z z K9.o z ⟨z,by simp[GZ]⟩ ?_;intro f9 d9 d1;have d2:=O d9;have a9:=d1.below (by rw[e7.o.2];omega) B9.o;have e1:=O (a5.o.below a9);have g2:=O (d3.o.below a9);have x1:f9.cell? ⟨bP,1,none⟩=some (I Q):=d2.o.cell 1;clear d9 d1 a9 K9 B9 s9)
    | ((with_reducible refine cY (.store 3 (.tmp 93) _) ?_);refine az dx z (.tmp 93) (.tmp 92) z w.1.size 23 60 (I Q) _ z z z z e1.o.1.s (by rw[a7.o];decide) ?_;intro e6 a6 a3;rw[(a8.o (xs:Int) ot lo (.slice none 0 0) (Q:Int) false).2.2.2.2.1]at a6;have b6:=O (e1.o.Dw a6 a3);have e9:=O (a3.CV (by have:=Y.o;omega) g2.o);have g8:=O (a3.CV (by have:=e7.o;have:=Y.o;omega) d2.o);clear a6 a3 x1;have w3:e6.cell? ⟨G,3,none⟩=some (.bool false):=e9.o.cell 3)
    |fail)
   refine d5.o _ _ ?_;have A:=HR.o;rw[lI a2.o g1 c8.o g7.o]at A;exact ih HI (O b6.o.1) (O b6.o.2.1) (O b6.o.2.2) HB HE IB IE (O A)
  |true=>
   go_wp2_with (first
    | ((with_reducible refine cp 8 (.alloc 104) ?_);refine ag d0 e0 d7 z z bP f0 ?_;intro V9 k9 b9 s9;have K9:=O k9;have B9:=O b9;clear k9 b9)
    | ((with_reducible refine cY (.store 104 (.tmp 8) _) ?_);refine af bY z (.tmp 8) (.tmp 90) z bP [I yk,I Q] _ z z K9.o z ⟨z,by simp[GZ]⟩ ?_;intro f9 d9 d1;have d2:=O d9;have a9:=d1.below (by rw[e7.o.2];omega) B9.o;have e1:=O (a5.o.below a9);have g2:=O (d3.o.below a9);have x1:f9.cell? ⟨bP,1,none⟩=some (I Q):=d2.o.cell 1;clear d9 d1 a9 K9 B9 s9)
    | ((with_reducible refine cY (.store 3 (.tmp 93) _) ?_);refine az dx z (.tmp 93) (.tmp 92) z w.1.size 23 60 (I Q) _ z z z z e1.o.1.s (by rw[a7.o];decide) ?_;intro e6 a6 a3;rw[(a8.o (xs:Int) ot lo (.slice none 0 0) (Q:Int) false).2.2.2.2.1]at a6;have b6:=O (e1.o.Dw a6 a3);have e9:=O (a3.CV (by have:=Y.o;omega) g2.o);have g8:=O (a3.CV (by have:=e7.o;have:=Y.o;omega) d2.o);clear a6 a3 x1;have w3:e6.cell? ⟨G,3,none⟩=some (.bool true):=e9.o.cell 3)
    | ((with_reducible refine gU _ (.load 104 _) ?_);refine ac h0 h3 bY z (.tmp 8) z bP [I yk,I Q] z g8 z ?_)
    |fail)
   have H:=gd (yk:Int) (Q:Int) e6;rw[show decide ((yk:Int)=0)=decide (yk=0) by simp]at H;obtain⟨bb,b4⟩:∃bb,decide (yk=0)=bb:=⟨_,z⟩;rw[b4]at H;have g6:=O b4;clear b4;refine H.mono ?_;clear H;rintro e i3 ⟨rfl,E⟩;have h2:=O (b6.o.below E);clear E w3 b6 e9 g8;go_wp2_with (first
    | ((with_reducible refine cY (.store 4 (.tmp 98) _) ?_);refine az xK z (.tmp 98) (.tmp 97) z w.1.size 24 60 (.bool bb) _ z z z z h2.o.1.s (by rw[a7.o];decide) ?_;intro i5 g5 c13;rw[(a8.o (xs:Int) (Q:Int) lo (.slice none 0 0) 0 bb).2.2.2.2.2]at g5;have f1:=O (h2.o.Dw g5 c13);clear g5 c13)
    |fail)
   refine d5.o _ _ ?_;have A:=HR.o;rw[lI a2.o g1 c8.o g7.o]at A;rw[<-g6.o]at f1;exact ih HI (O f1.o.1) (O f1.o.2.1) (O f1.o.2.2) HB HE IB IE (O A)
theorem Ms.Fo{F h:Nat}{fc:List Fr}{D:PF}{x y:Ex}(H:Ms w0 w F g h fc D l5 l3 l4 x y W)(K:ak V w.1.size 60 l2)(j:Kp W V w.1.size w.1.size):Ms w0 w F g h fc D l2 l3 l4 x y V:=by
 have N:=H.1.lt;have Q:=H.lt;have G:∀ (b o:Nat) (u:Fr),w.1.size+2<=b->W.cell? (ad b o)=some u->V.cell? (ad b o)=some u:=fun b o u C A=>by rw[<-A];simp[FI,j.block b (FF W _ A) (by omega) (by omega)]
 exact⟨⟨⟨j.os.trans H.1.k.os,j.tape.trans H.1.k.tape,j.output.trans H.1.k.output,FU H.1.k.size j.size,fun c E M J=> (j.block c (FJ E H.1.k.size) (by omega) (by omega)).trans (H.1.k.block c E M J)⟩,H.1.f.of (j.block _ (by omega) (by omega) (by omega)) (j.block _ (by omega) (by omega) (by omega)) (j.block _ (by omega) (by omega) (by omega)),K,H.1.y.of (j.block _ (by omega) (by omega) (by omega)),j.Dx H.1.b (by have:=H.1.b.size;omega) (by omega) (by omega),H.1.lt⟩,H.2.1.keep fun b o u C A=>G b o u C A,H.2.2.keep fun b o u C A=>G b o u C A⟩
theorem Xs.DI{F h:Nat}{fc:List Fr}{D:PF}(H:Xs w0 w F g h fc D l2 W){cs:List Fr}{x:Ex}(j:ExL (fun _=>True) w0 cs x):ExL (fun _=>True) W cs x:=j.keep fun b o u _ A=>ai H.b b o u A
theorem rX{F h:Nat}{fc:List Fr}(k l c:Int)(s t:ByteArray)(x y:Ex)(body els:List St)(id sl ot:Int)(lo:Bool)(hx:x.sm)(hy:y.sm)(f1:nD w0 F g h fc body)(d7:nD w0 F g h fc els)(D:PF)(sc:List Fr)(w:Fk)(hF:Fi w F g h fc D)(hI:xu D)(hw:FM w0.1.size w0 w)(d8:w0.1.size<=F/\w0.1.size<=g)(hS:bX (fun _=>True) w0 sc (.mk k l c s t x y body els id sl ot lo)):
  Jq prog 117 #[Pt F,.agg sc.toArray] w (AV w F g h fc D (ly D.L D.loc D.n D.mo (.mk k l c s t x y body els id sl ot lo))):=by
 obtain⟨d6,e4,e3⟩:=en;obtain⟨i6,z6,f6,f4,a1⟩:=ki;unfold bX at hS;obtain⟨S,yc,ab,ae,a6,a8,e2,b7,d2,f2,J,d5,he⟩:=hS;have U:=O b7.cells;have a2:=O d2.cells;have HX:=O b7;have HY:=O d2;have HB:=O (EQ f2 J);have HE:=O (EQ d5 he);have IB:=O f1;have IE:=O d7;have e0:=O (EQ hx hy);have d1:Hid (sc=cO k l c s t S yc (.slice ab body.length a6) (.slice ae els.length a8) id sl ot lo):=O e2;have g3:Hid (sc.length=25/\∀v∈sc,v.oneCell'=true):=O (by rw[d1.o];exact hk U.o a2.o);have c9:=O hF;have HI:=O hI;have HW:=O (EQ hw d8);obtain⟨R,j⟩:∃R,ly D.L D.loc D.n D.mo (.mk k l c s t x y body els id sl ot lo)=R:=⟨_,z⟩;rw[j];rw[my]at j;have HR:=O j;clear j e2 b7 d2 f2 J d5 he f1 d7 hx hy hF hI hw d8
 go_enter func117,ntmps117;refine wk fun H A=>?_;go_wp2_with (first
  | ((with_reducible refine cp 3 (.box 60 _) ?_);refine aJ z (.tmp 1) z sc z w.1.size z ?_;intro W1 k1 b1 d4;have K1:=O k1;have B1:=O b1;clear k1 b1)
  | ((with_reducible refine cp 4 (.alloc 60) ?_);refine ag f6 f4 a1 z z (w.1.size+1) d4 ?_;intro W2 k2 b2 s2;have K2:=O k2;have B2:=O b2;clear k2 b2)
  |fail)
 refine A.o _ _ ?_;clear A H;have b6:=B1.o.trans (B2.o.mono B1.o.size);have M:Hid (Xs w0 w F g h fc D sc W2):=O ⟨Kp.below b6,c9.o.up b6,K1.o.below B2.o,K2.o,HW.o.1.trans (b6.mono HW.o.1.size),c9.o.EH,HW.o.2⟩;clear B1 B2 K1 K2 b6 d4 s2 c9;have c16:=M.o.f.c16;refine wk fun H A=>?_;have G:=O (bR d1.o U.o.1 a2.o.1);by_cases h5:D.n=512
 .have f7:(D.n:Int)=512:=by omega
  have j:=HR.o;rw[aD h5]at j;have b4:=O j.symm;clear HR j h5;have k1:=(M.o.s.cell 1).trans G.o.2.1;have k2:=(M.o.s.cell 2).trans G.o.2.2.1;go_wp2_with fail;rw[b4.o];exact⟨z,M.o.k,z,D.n,D.mo,M.o.f⟩
 .have f7:¬ (D.n:Int)=512:=by omega
  have j:=HR.o;rw[am h5]at j;have b4:=O j.symm;have a3:Hid (D.n<512):=O (by have:=HI.o.2;omega);clear HR j h5;go_wp2_with fail;refine A.o _ _ ?_;clear A H;have f9:(D.n:Int)<512:=by have:=a3.o;omega
  have f3:=(M.o.s.cell 21).trans G.o.2.2.2.2.2.2.2.1;have f8:=M.o.s.frozen 21;have f5:=M.o.f.f.frozen 16;refine wk fun H A=>?_;go_wp2_with fail;refine A.o _ _ ?_;clear A H;refine wk fun H A=>?_;go_wp2_with fail;refine A.o _ _ ?_;clear A H c16 f3 f8 f5 G;have g1:=M.o.Dw (M.o.s.set1 21 (I D.n)) (Ch.one 21 _ W2);rw[d1.o,(cC U.o.1 a2.o.1 (.slice none 0 0) (D.n:Int) false).2.2.1]at g1;have g2:=g1.Dc 3 (I ((D.n:Int)+1)) {D with n:=D.n+1} z (by simp[eD]);have W:=O g2;clear g1 g2 M;generalize Gc (Gc _ _ _) _ _=W5 at *;have e8:Hid (xu {D with n:=D.n+1}):=O ⟨HI.o.1,a3.o⟩;have a9:=mC (h:=h) (fc:=fc) (F:=F) (g:=g) (D:={D with n:=D.n+1}) (l,c) y e0.o.2 yc W5 W.o.f (W.o.DI HY.o)
  obtain⟨r,Q⟩:∃r,hM D.L (l,c) y=r:=⟨_,z⟩;have j:=b4.o;simp only at a9;rw[Q]at a9 j;clear Q b4;have c8:=O j;clear j;have G:=O (bR z U.o.1 a2.o.1 (C:=cO k l c s t S yc (.slice ab body.length a6) (.slice ae els.length a8) (D.n:Int) sl ot lo));have q1:=(W.o.s.cell 1).trans G.o.2.1;have q2:=(W.o.s.cell 2).trans G.o.2.2.1;have a7:W5.rangeAt w.1.size 12 yc:=by have h:=W.o.s;rw[jj]at h;have h2:=ak.range h z;rw[show (Gr .i64 k::I l::I c:: .string s:: .string t::S).length=12 by simp[U.o.1]]at h2;exact h2
  have a4:=O a7;clear a7;refine wk fun H A=>?_;go_wp2_with (first
   | ((with_reducible refine gU _ (.load 58 _) ?_);refine Gn z 58 (.tmp 31) z w.1.size 12 z yc d6 a4.o e4 e3 (by rw[a2.o.1];exact be) ?_)
   |fail)
  refine a9.mono ?_;clear a9 q1 q2 a4 G;rintro e V5 ⟨J,X⟩;have K:=O (W.o.below J);rcases r with er|y'
  .obtain rfl:e= .panicked [dd er]:=X;have j:=c8.o;obtain rfl:=j;exact⟨z,K.o.k,z,_,_,K.o.f⟩
  obtain⟨ys,rfl,hy⟩:=X;have a3:Hid (ExL (w.1.size+2<=·) V5 ys y'):=O (ExL.CQ (fun c hc=>by have h1:W5.1.size<=c:=hc;have:=W.o.sz;show w.1.size+2<=c;omega) hy);have b5:=O hy.cells;have a5:=O (show ak V5 w.1.size 60 ((I k::I l::I c:: .string s:: .string t::S)++(yc++_)) by rw[<-jj];exact K.o.s);clear hy J W;go_wp2_with (first
   | ((with_reducible refine cY (.store 58 _ _) ?_);refine dc be z (.tmp 36) (.tmp 35) z w.1.size 12 ys z z a5.o (by simp[U.o.1]) a2.o.1 b5.o ?_;intro T5 Z Y;rw[<-jj]at Z;have V:=O (K.o.Dw Z Y);have e6:=O (Y.exW (by omega) a3.o);clear Z Y K a3 a5)
   |fail)
  refine A.o _ _ ?_;clear A H;have a1:=mC (h:=h) (fc:=fc) (F:=F) (g:=g) (D:={D with n:=D.n+1}) (l,c) x e0.o.1 S T5 V.o.f (V.o.DI HX.o);obtain⟨r,Q⟩:∃r,hM D.L (l,c) x=r:=⟨_,z⟩;have j:=c8.o;simp only at a1 j;rw[Q]at a1 j;clear Q c8;have b9:=O j;clear j;have G:=O (bR z U.o.1 b5.o.1 (C:=cO k l c s t S ys (.slice ab body.length a6) (.slice ae els.length a8) (D.n:Int) sl ot lo));have q1:=(V.o.s.cell 1).trans G.o.2.1;have q2:=(V.o.s.cell 2).trans G.o.2.2.1;have a7:T5.rangeAt w.1.size 5 S:=by have h:=V.o.s;rw[jg]at h;exact ak.range h z
  have a4:=O a7;clear a7;refine wk fun H A=>?_;go_wp2_with (first
   | ((with_reducible refine gU _ (.load 58 _) ?_);refine Gn z 58 (.tmp 38) z w.1.size 5 z S d6 a4.o e4 e3 (by rw[U.o.1];exact be) ?_)
   |fail)
  refine a1.mono ?_;clear a1 q1 q2 a4 G;rintro e V6 ⟨J,X⟩;have K:=O (V.o.below J);rcases r with er|x'
  .obtain rfl:e= .panicked [dd er]:=X;have j:=b9.o;obtain rfl:=j;exact⟨z,K.o.k,z,_,_,K.o.f⟩
  obtain⟨xs,rfl,hx⟩:=X;have e7:Hid (ExL (w.1.size+2<=·) V6 xs x'):=O (ExL.CQ (fun c hc=>by have h1:T5.1.size<=c:=hc;have:=V.o.sz;show w.1.size+2<=c;omega) hx);have e9:=O (ExL.keep (fun b o u _ hu=>ai J b o u hu) e6.o);have d0:=O hx.cells;have a5:=O (show ak V6 w.1.size 60 ([I k,I l,I c,.string s,.string t]++(S++_)) by rw[<-jg];exact K.o.s);clear hx J V e6;go_wp2_with (first
   | ((with_reducible refine cY (.store 58 _ _) ?_);refine dc be z (.tmp 43) (.tmp 42) z w.1.size 5 xs z z a5.o z U.o.1 d0.o ?_;intro T6 Z Y;rw[<-jg]at Z;have N:Hid (Ms w0 w F g h fc {D with n:=D.n+1} (cO k l c s t xs ys (.slice ab body.length a6) (.slice ae els.length a8) (D.n:Int) sl ot lo) xs ys x' y' T6):=O ⟨K.o.Dw Z Y,Y.exW (by omega) e7.o,Y.exW (by omega) e9.o⟩;clear Z Y K e7 e9 a5)
   |fail)
  refine A.o _ _ ?_;clear A H;have G:=O (bR z d0.1 b5.1 (C:=cO k l c s t xs ys (.slice ab body.length a6) (.slice ae els.length a8) (D.n:Int) sl ot lo));have q0:=(N.1.s.cell 0).trans G.1;have j:=b9.o;simp only[lU]at j;have d3:=O j;clear j b9;refine wk fun H A=>?_;by_cases e1:k=1
  .have b8:=um N.1.f N.1.s d0.1 b5.1 (by have:=N.1.lt;omega);obtain⟨r,Q⟩:=eX (rI {D with n:=D.n+1} (l,c) s);rw[Q]at b8;have e5:=O Q;clear Q;subst e1;go_wp2_with fail;apply b8.mono;clear b8 q0;intro e V7 X;rcases r with er|⟨⟩
   .obtain⟨rfl,J⟩:=X;have j:=d3.o;have E:=e5.o;rw[aD trivial]at j;unfold rI at E;have hq:R= .error er:=by
     rw[j];simp only at E;by_cases hs:(ex D.L s).isSome=true
     .rw[aD hs]at E ⊢;cases E;rfl
     .rw[am hs]at E ⊢;by_cases hl:D.loc=32
      .rw[aD hl]at E ⊢;cases E;rfl
      .rw[am hl]at E;cases E
    rw[hq];have a0:=N.below J;exact⟨z,a0.1.k,z,_,_,a0.1.f⟩
   .obtain⟨rfl,f0,d9⟩:=X;have a0:=O (N.Fo f0 d9);clear f0 d9 N;go_wp2;refine A.o _ _ ?_;have j:=d3.o;have E:=e5.o;rw[aD trivial]at j;unfold rI at E;simp only at E;by_cases hs:(ex D.L s).isSome=true
    .rw[aD hs]at E;cases E
    .rw[am hs]at E j;by_cases hl:D.loc=32
     .rw[aD hl]at E;cases E
     .rw[am hl]at j;refine xQ e8 (O a0.1) (O a0.2.1) (O a0.2.2) HB HE IB IE (O ?_);rw[kK rfl,j]
  .go_wp2;refine A.o _ _ ?_;have j:=d3.o;rw[am e1]at j;exact xQ e8 (O N.1) (O N.2.1) (O N.2.2) HB HE IB IE (O j)
def gV(ns:List ByteArray)(L:List Nm):List Nm:=ns.foldl (fun L s=>L.eraseP fun x=>decide (x.text=s)) L
theorem lq(g:List ByteArray)(s:ByteArray)(L:List Nm):gV (g++[s]) L=(gV g L).eraseP fun x=>decide (x.text=s):=by simp[gV,List.foldl_append]
theorem kr(s:ByteArray)(x:Nm)(h:x.text≠s):∀L:List Nm,(L++[x]).eraseP (fun y=>decide (y.text=s))=L.eraseP (fun y=>decide (y.text=s))++[x]
 | []=>by simp[h]
 |y::r=>by
  by_cases g:y.text=s
  .simp[g]
  .simp[g,kr s x h r]
theorem nw(x:Nm):∀ (g:List ByteArray) (L:List Nm),x.text∉g->gV g (L++[x])=gV g L++[x]
 | [],L,_=>rfl
 |s::r,L,h=>by
  show gV r ((L++[x]).eraseP _)=gV r (L.eraseP _)++[x]
  rw[kr s x (fun e=>h (by simp[e])),nw x r _ (fun e=>h (by simp[e]))]
theorem uf{L:List Nm}:ex L s=none↔∀x∈L,x.text≠s:=by simp[ex,List.find?_eq_none]
def qT(D D2:PF)(ns:List ByteArray):Prop:=(∃news:List Nm,D2.L=D.L++news/\news.map (·.text)=ns)/\gV ns D2.L=D.L/\D2.loc=D.loc+ns.length/\D2.ce=D.ce
theorem qT.refl(D:PF):qT D D []:=⟨⟨[],by simp,z⟩,z,z,z⟩
theorem qT.cnt{D:PF}{g:List ByteArray}(h:qT D F g)(n mo:Nat):qT D {F with n:=n,mo:=mo} g:=h
theorem qT.snoc{D:PF}{g:List ByteArray}(h:qT D F g)(N:ex F.L s=none)(n mo:Nat):qT D {F with L:=F.L++[Nm.mk s 0 F.loc],loc:=F.loc+1,n:=n,mo:=mo} (g++[s]):=by
 let ⟨⟨G,w,C⟩,J,M,K⟩:=h
 have E:=uf.1 N;have Q:s∉g:=fun A=>by
  rw[<-C]at A;let ⟨x,j,H⟩:=HM.1 A
  exact E x (by rw[w];simp[j]) H
 refine⟨⟨G++[Nm.mk s 0 F.loc],by simp[w],by simp[C]⟩,?_,by simp[M];omega,K⟩;rw[lq];show (gV g (F.L++[Nm.mk s 0 F.loc])).eraseP _=D.L;rw[nw _ _ _ Q,J,List.eraseP_append_right]
 .simp
 .intro x j;simpa using E x (by rw[w];simp[j])
mutual
theorem pY:∀ (s:St) (L:List Nm) (loc n mo:Nat) (s':St) (n2 mo2:Nat),ly L loc n mo s= .ok (s',n2,mo2)->n+1<=n2
 | .mk k l c s t x y body els id sl ot lo,L,loc,n,mo,s',n2,mo2,h=>by
  rw[my]at h
  split at h
  .cases h
  cases hy:hM L (l,c) y with
  |error e=>rw[hy]at h;cases h
  |ok y'=>
   rw[hy]at h
   cases hx:hM L (l,c) x with
   |error e=>rw[hx]at h;cases h
   |ok x'=>
    rw[hx]at h
    cases hq:dW L loc (l,c) k s t sl ot lo with
    |error e=>rw[hq]at h;cases h
    |ok q=>
     rw[hq]at h
     simp only[nf]at h
     cases hb:cb L loc (n+1) mo body with
     |error e=>rw[hb]at h;cases h
     |ok b=>
      obtain⟨b,n3,mo3⟩:=b
      rw[hb]at h
      have h3:=ks body L loc (n+1) mo b n3 mo3 hb
      simp only at h
      cases he:cb L loc n3 mo3 els with
      |error e=>rw[he]at h;cases h
      |ok b2=>
       obtain⟨b2,n4,mo4⟩:=b2
       rw[he]at h
       cases h
       exact FU h3 (ks els L loc n3 mo3 b2 n2 mo2 he)
theorem ks:∀ (r:List St) (L:List Nm) (loc n mo:Nat) (r':List St) (n2 mo2:Nat),cb L loc n mo r= .ok (r',n2,mo2)->n<=n2
 | [],L,loc,n,mo,r',n2,mo2,h=>by
  rw[cb]at h
  cases h
  exact FL _
 |s::r,L,loc,n,mo,r',n2,mo2,h=>by
  rw[hX]at h
  cases hs:ly L loc n mo s with
  |error e=>rw[hs]at h;cases h
  |ok q=>
   obtain⟨s',n3,mo3⟩:=q
   rw[hs]at h
   have h3:=pY s L loc n mo s' n3 mo3 hs
   simp only at h
   cases hr:cb (dJ L loc mo3 s).1 (dJ L loc mo3 s).2.1 n3 (dJ L loc mo3 s).2.2 r with
   |error e=>rw[hr]at h;cases h
   |ok b=>
    obtain⟨b,n4,mo4⟩:=b
    rw[hr]at h
    cases h
    have:=ks r _ _ _ _ b n2 mo2 hr
    omega
end
theorem sD{L:List Nm}{loc mo:Nat}{k l c:Int}{x y:Ex}{body els:List St}{id sl ot:Int}{lo:Bool}(h:ly L loc n mo (.mk k l c s t x y body els id sl ot lo)= .ok (B0,n2,j)):
  ∃A w b' e' G K H,B0= .mk k l c s t A w b' e' (n:Int) G K H/\(k=1->G=(loc:Int)/\ex L s=none/\loc≠32):=by
 rw[my]at h;split at h
 .cases h
 cases F:hM L (l,c) y with
 |error e=>rw[F]at h;cases h
 |ok w=>
  rw[F]at h;cases D:hM L (l,c) x with
  |error e=>rw[D]at h;cases h
  |ok A=>
   rw[D]at h;cases g:dW L loc (l,c) k s t sl ot lo with
   |error e=>rw[g]at h;cases h
   |ok q=>
    rw[g]at h;simp only[nf]at h;cases C:cb L loc (n+1) mo body with
    |error e=>rw[C]at h;cases h
    |ok b=>
     let ⟨b,n3,J⟩:=b
     rw[C]at h;simp only at h;cases E:cb L loc n3 J els with
     |error e=>rw[E]at h;cases h
     |ok b2=>
      let ⟨b2,n4,R⟩:=b2
      rw[E]at h;cases h;refine⟨A,w,b,b2,q.1,q.2.1,q.2.2,z,fun N=>?_⟩;rw[lU,aD N]at g;split at g
      .cases g
      split at g
      .cases g
      .cases g;rename_i Q M;exact⟨z,by simpa using Q,M⟩
def vx{α:Type}(E:El α)(av:Nat->Prop):El α:=⟨E.ty,E.sz,fun ok w cs x=>E.L (fun c=>ok c/\¬av c) w cs x,fun h1 h2=>E.keep (fun b o v hb hv=>h1 b o v hb.1 hv) h2,fun h1 h2=>E.CQ (fun b hb=>⟨h1 b hb.1,hb.2⟩) h2,fun h=>E.cells h,fun h=>E.CQ (fun _ hb=>⟨⟨hb.1.1,hb.2⟩,hb.1.2⟩) (E.bound h)⟩
section
variable {α:Type} {E:El α} {av av':Nat→Prop} {B:Nat} {w w':Fk} {v:Fr} {l:List α}
theorem aL.DC(h:aL E B w v l)(j:v.ownBlock=some c):B<=c/\c<w.1.size:=by obtain⟨cells,-,g,-⟩:=h.own;exact g.lt c j
theorem aL.Fg(h:aL (vx E av) B w v l):aL E B w v l:=by
 let ⟨cells,D,C,A⟩:=h.own
 exact⟨cells,D,C,fun i cs x g j=>E.CQ (fun c g=>g.1) (A i cs x g j)⟩
theorem aL.EX(h:aL (vx E av) B w v l)(H:∀c,c<w.1.size->B<=c->¬av c->w'.1[c]? =w.1[c]?)(V:w.1.size<=w'.1.size)(J:∀c,v.ownBlock=some c->¬av c)(N:∀c,c<w.1.size->av' c->av c):aL (vx E av') B w' v l:=by
 let ⟨cells,U,F,M⟩:=h.own
 refine⟨cells,U,⟨F.1,?_⟩,fun i cs x j K=>?_⟩
 .rcases F.2 with A|⟨g,cap,S,A,D,G,R⟩
  .exact .inl A
  .exact .inr ⟨g,cap,S,A,D,(H g (FT.1 G).1 D (J g (by rw[A];rfl))).trans G,R⟩
 .have A:=E.bound (M i cs x j K);exact E.CQ (fun c j=>⟨⟨j.1.1.1,FJ j.2 V⟩,fun e=>j.1.2 (N c j.2 e)⟩) (E.keep (fun b o v C Q=>by rw[<-Q];simp[FI,H b C.2 C.1.1.1.1 C.1.2]) A)
theorem aL.flat(C:∀ (ok ok':Nat->Prop) (w w':Fk) (cs:List Fr) (x:α),E.L ok w cs x->E.L ok' w' cs x)(h:aL E B w v l)(Q:∀c,v.ownBlock=some c->w'.1[c]? =w.1[c]?):aL E B w' v l:=by
 let ⟨cells,N,A,F⟩:=h.own
 refine⟨cells,N,⟨A.1,?_⟩,fun i cs x M D=>C _ _ _ _ _ _ (F i cs x M D)⟩;rcases A.2 with j|⟨g,cap,K,j,G,J,H⟩
 .exact .inl j
 .exact .inr ⟨g,cap,K,j,G,(Q g (by rw[j];rfl)).trans J,H⟩
end
theorem Fi.setC{w':Fk}{F h:Nat}{pc:List Fr}{D:PF}(H:Fi w F g h pc D){D':PF}(A:ak w' F 101 ((pc++eD g h D).set (13+j) v))(G:Ch F w w')(C:D'.L=D.L)(E:(eD g h D).set j v=eD g h D'):Fi w' F g h pc D':=by rw[show 13+j=pc.length+j by rw[H.lp],iQ,E]at A;obtain⟨o,vs,rfl⟩:=G;exact⟨H.lp,A,by rw[C];exact H.m.of (au (Gp H.fg) _ _ _),(au (Gp H.fh) _ _ _).trans H.wm,H.fg,H.fh,H.gh⟩
theorem Ch.FB{w':Fk}(h:Ch b w w')(g:c≠b):w'.1[c]? =w.1[c]? :=by obtain⟨o,vs,rfl⟩:=h;exact au g _ _ _
theorem ak.ptr{T:GA}(h:ak W b T [v]):W.cell? (ad b 0)=some v:=h.cell 0
theorem hV(ok ok':Nat->Prop)(w w':Fk)(cs:List Fr)(x:ByteArray)(h:fl.L ok w cs x):fl.L ok' w' cs x:=h
structure Bb (w0 w:Fk) (F g h:Nat) (fc:List Fr) (D:PF) (mv:Fr) (W:Fk):Prop where
 k:Kp w W F g
 f:Fi W F g h fc D
 z:ak W w.1.size 96 [.pointer (some ⟨F,0,none⟩)]
 m:ak W (w.1.size+1) 26 [mv]
 b:FM w0.1.size w0 W
 lt:(F<w.1.size/\g<w.1.size/\h<w.1.size)/\w0.1.size<=F/\w0.1.size<=g
section
variable {w0 w W W':Fk} {F g h:Nat} {fc:List Fr} {D D':PF} {mv mv':Fr}
theorem Bb.sz(H:Bb w0 w F g h fc D mv W):w.1.size+2<=W.1.size:=H.m.lt
theorem Bb.Dy(H:Bb w0 w F g h fc D mv W)(j:FM (w.1.size+2) W W'):Bb w0 w F g h fc D mv W':=by have A:=H.lt;have G:=H.sz;exact⟨⟨j.os.trans H.k.os,j.tape.trans H.k.tape,j.output.trans H.k.output,FU H.k.size j.size,fun c C A E=> (j.block c (by omega)).trans (H.k.block c C A E)⟩,H.f.below j (by omega) (by omega) (by omega),H.z.of (j.block _ (by omega)),H.m.of (j.block _ (by omega)),H.b.trans (j.mono (by omega)),H.lt⟩
theorem Bb.below(H:Bb w0 w F g h fc D mv W)(j:bL W W'):Bb w0 w F g h fc D mv W':=H.Dy (j.mono H.sz)
theorem Bb.ch(H:Bb w0 w F g h fc D mv W)(j:w.1.size+2<=b)(A:Ch b W W'):Bb w0 w F g h fc D mv W':=H.Dy (A.below j (FB _ _))
theorem Bb.Fj(H:Bb w0 w F g h fc D mv W)(E:ak W' (w.1.size+1) 26 [mv'])(j:Ch (w.1.size+1) W W'):Bb w0 w F g h fc D mv' W':=by have J:=H.lt;refine⟨?_,H.f.ch j (by omega) (by omega) (by omega),j.CV (by omega) H.z,E,j.below (by omega) H.b,H.lt⟩;have A:=j.kp;exact⟨A.os.trans H.k.os,A.tape.trans H.k.tape,A.output.trans H.k.output,FU H.k.size A.size,fun c j C G=> (A.block c (FJ j H.k.size) (by omega) (by omega)).trans (H.k.block c j C G)⟩
theorem Bb.call(H:Bb w0 w F g h fc D mv W)(j:Kp W W' F g)(A:Fi W' F g h fc D'):Bb w0 w F g h fc D' mv W':=by have E:=H.lt;have C:=H.sz;exact⟨H.k.trans j,A,H.z.kp j (by omega) (by omega),H.m.kp j (by omega) (by omega),j.Dx H.b (by omega) (by omega) (by omega),H.lt⟩
theorem iz.Fe(j:iz g W W'):Kp W W' F g:=⟨j.os,j.tape,j.output,Nat.le_of_eq j.size.symm,fun c _ _ A=>j.block c A⟩
theorem Bb.map(H:Bb w0 w F g h fc D mv W)(j:iz g W W'){L:List Nm}(A:oV W' g L):Bb w0 w F g h fc {D with L:=L} mv W':=H.call j.Fe (H.f.map j A)
end
theorem uW{F h z:Nat}{fc:List Fr}{D:PF}{A:List ByteArray}(u:FrameMode)(H:Fi w F g h fc D)(hz:ak w z 96 [Pt F])(Y:ak w m 26 [.slice a0 A.length n0])(a3:Ro fl (fun c=>c≠F/\c≠g) w (.slice a0 A.length n0) A)(a9:z≠F/\z≠g/\m≠F/\m≠g)(hl:A.length<=D.loc/\D.loc<=32):
  CallsD prog 116 #[Pt m,Pt z] u w fun e u' w'=>u'=u/\(e= .returned (.tuple #[])/\Kp w w' F g/\Fi w' F g h fc {D with L:=gV A D.L,loc:=D.loc-A.length}):=by
 let ⟨G,hN⟩:=eX (A.length)
 rw[hN]at Y a3 hl ⊢;have HN:=O hN;have HH:=O H;have HZ:=O hz;have HM:=O Y;have b6:=O a3;have V:=O a9;have HL:=O hl;have d4:G<=32:=by omega
 have U:=Y.cell 0;have Q:=hz.cell 0;simp only[FE]at U Q;clear H hz Y a3 a9 hl hN;refine callsD_of_wp func116 rfl ?_;simp only[ntmps116,List.size_toArray,FV,List.length_nil,Nat.reduceAdd,Nat.reduceSub,Array.replicate_succ,Array.replicate_zero,List.push_toArray,List.append_toArray,Hw,GM];refine wk fun KK b8=>?_;go_wp2;clear U Q;go_loopg [6] G (fun x iv wr=>∃i:Nat,i<=G/\x=G-i/\iv=I i/\Hid (Fi wr F g h fc {D with L:=gV (A.take i) D.L})/\Hid (Kp w wr g g));case atStart=>exact⟨0,FX _,rfl,rfl,O HH,O (Kp.refl _ _ _)⟩
 case round=>
  obtain⟨i,hi,rfl,rfl,S,K⟩:=hrel;have Z:=O (HZ.kp K V.2.1 V.2.1);have a4:=O (HM.kp K V.2.2.2 V.2.2.2);by_cases c8:i<G
  .have d2:(i:Int)< (G:Int):=by omega
   have d0:(0:Int)<=(i:Int):=by omega
   have d5:(i:Int)+1<=1000:=by omega
   obtain⟨s,hs⟩:∃s,A[i]? =some s:=⟨_,FC (by rw[HN.o];exact c8)⟩;obtain⟨a,cap,he,-,a5⟩:=b6;obtain⟨b,a1,cs,ha,a7,b4,rfl⟩:=a5 i s hs;obtain rfl:a0=a:=by cases he;rfl
   subst ha;have gi:wr.cell? (ad b (a1+i))=some (.string s):=by have E:=b4 0 (.string s) rfl;rw[show a1+i*fl.sz+0=a1+i by simp[fl]]at E;rw[<-E];simp[FI,K.o.block b (FF w _ E) a7.2 a7.2]
   let ⟨M,d3,a8,a2⟩:=zb S.m s
   have c13:=S.c13;have Q:=Z.cell 0;simp only[FE]at Q;have HE:Hid (Fi M F g h fc {D with L:=gV (A.take (i+1)) D.L}/\Kp w M g g):=O ⟨by have E:=S.map a2 a8;rw[List.take_add_one,hs];show Fi M F g h fc {D with L:=gV (A.take i++[s]) D.L};rw[lq];exact E,K.trans a2.kp⟩
   clear a8 a2 he a5 b4 hs;go_wp2;go_roundg (G- (i+1));case measure=>omega
   case rel=> refine⟨i+1,by omega,rfl,?_,O HE.1,O HE.2⟩;exact congrArg (Gr .i64) (by omega)
  .obtain rfl:i=G:=by omega
   have d1:¬ (i:Int)< (i:Int):=by omega
   have a6:Hid (Fi wr F g h fc {D with L:=gV A D.L}):=O (by have E:=S.o;rw[<-HN.o,List.take_length]at E;exact E)
   clear S;go_wp2;apply b8;have b5:prog.follows .mixedOrders=true:=by kernel_rfl
   let ⟨R,X⟩:=eX (wr.drew)
   have C:Hid (Fi R F g h fc {D with L:=gV A D.L}/\ak R z 96 [Pt F]/\ak R m 26 [.slice a0 i n0]):=O (by rw[<-X];exact⟨a6.up (FB _ _).drew,Z.drew,a4.drew⟩);have N:Hid (Kp w R g g):=O (X▸K.o.drew);clear K a6 Z a4;go_wp2;apply al [9] (fun W=>Fi W F g h fc {D with L:=gV A D.L}/\ak W z 96 [Pt F]/\ak W m 26 [.slice a0 i n0]) b5;rw[X];clear X;refine aM 0 (some 16) (v:=?_) rfl rfl (by kernel_rfl) (fun _ _ _ h=>h) C (GJ ⟨by rfl,?_⟩) ?_;rotate_left
   .intro M J;have Q:=J.2.1.cell 0;simp only[FE]at Q;clear J;go_simp;first|with_reducible rfl|rw[am (by omega)]
   apply nk 1;apply fK _ 3 (fun M J=>J.1.c17);refine nm ?_;refine aM 4 (some 20) (v:=?_) rfl rfl (by kernel_rfl) (fun _ _ _ h=>h) C (GJ ⟨by rfl,?_⟩) ?_;rotate_left
   .intro M J;have U:=J.2.2.cell 0;simp only[FE]at U;clear J;go_simp;first|with_reducible rfl|rw[am (by omega)]
   apply ke 5;refine nm ?_;apply fa 8;refine nm ?_;refine oD 9 fun c9 hK=>?_;have hv:IntKind.i64.wrap ((D.loc:Int)- (i:Int))=((D.loc-i:Nat):Int):=by have:=HL.o;rw[IntWalk.i64_in _ (by omega)];omega
   refine aA dx (.tmp 24) (.tmp 22) rfl F 17 101 (I ((D.loc-i:Nat):Int)) _ rfl (by first|rfl| (rw[<-hv];rfl)) rfl rfl C.1.f (by simp[eD,C.o.1.lp]) ?_;intro V3 k3 c3;have b7:Hid (Fi V3 F g h fc {D with L:=gV A D.L,loc:=D.loc-i}):=O (C.1.setC (j:=4) k3 c3 rfl rfl);have b9:Hid (Kp w V3 F g):=O ⟨c3.kp.os.trans N.os,c3.kp.tape.trans N.tape,c3.kp.output.trans N.output,FU N.size c3.kp.size,fun c hc E h2=> (c3.kp.block c (FJ hc N.size) E E).trans (N.block c hc h2 h2)⟩;apply hK _ _ nofun;clear hK c9 k3 c3;try simp only[Act.put]
   refine dn ?_;go_wp2;go_end0;exact⟨rfl,b9,b7⟩
def yV{α:Type}(E:El α)(t:GA):Prop:=∃i z,prog.underlying t=some (.slice E.ty)/\prog.info? E.ty=some i/\i.zero=some z/\i.size=E.sz/\z.cells.size=E.sz/\0<E.sz/\E.sz<=1000/\i.bytes<=1024
def ys{α:Type}(E:El α):Prop:=∀ (ok ok':Nat->Prop) (w w':Fk) (cs:List Fr) (x:α),E.L ok w cs x->E.L ok' w' cs x
section
variable {P:Program} {ops:Array Oper} {Q:Exit→Act→Fk→Prop} {md:GS} {late:List Nat} {S:Fk→Prop}
theorem oW{D:Oper}(U:ops[i]? =some D)(V:∀ (j:Nat) (o:Oper) cs b,ops[j]? =some o->o.op≠ .select cs b)
  (hQ:∀c a w,Q (.panic c) (a.put D.dst v) w->Q (.panic c) a w)(a5:late.contains i=true)(F:Nat):∀ (C:Array Bool) (a:Act) (w:Fk),
   (∀j A,ops[j]? =some A->j≠i->C.getD j true=false->(∀e∈A.after,HK md e=true->e.on≠i)->D.apart ops A=true)->
   i∈FP md ops C->IL P ops (fun _=>True) D v a->
   cK P md ops Q late S F (C.setIfInBounds i true) (a.put D.dst v) w->cK P md ops Q late S (F+1) C a w:=by
 have J:¬late.contains i=false:=by rw[a5];decide
 induction F with
 |zero=>
  intro C a w _ E G H;refine⟨fun h=>absurd E (by rw[h];simp),fun j K=>?_⟩;have g:j=i:=HV fun a3=>by have Z:=HT K a3;rw[H.1]at Z;simp at Z
  subst g;exact G.wpOp U trivial ⟨fun h=>absurd h J,H⟩
 |succ F ih=>
  intro C a w X E G H;refine⟨fun h=>absurd E (by rw[h];simp),fun j K=>?_⟩;rcases HY (j=i) with g|g
  .subst g;exact G.wpOp U trivial ⟨fun h=>absurd h J,H⟩
  .let ⟨W,A,N,a2⟩:=Il.1 K
   have a1:∀e∈A.after,HK md e=true->e.on≠i:=fun e he hb a0=>by have h1:=a2 e he hb;rw[a0]at h1;exact eU (Il.1 E).1 h1
   have h2:=wpOp_putIf N (X j A N g W a1) (fun cs b=>V i D cs b U) (fun cs b=>V j A cs b N) hQ G (H.2 j (HT K g));refine wpOp_mono (fun a' w' M=>⟨M.2.1,ih (C.setIfInBounds j true) a' w' ?_ (HT E (Gp g)) M.1 ?_⟩) h2
   .intro k ok hk a4 Y J;refine X k ok hk a4 ?_ J;rcases HY (j=k) with R|R
    .subst R;exact W
    .rw[getD_set_ne true R]at Y;exact Y
   .rw[Gq _ _ g];exact M.2.2
theorem ck(i:Nat)(d:Option Tmp){C:Oper}{A:Array Bool}{a:Act}(D:ops[i]? =some C)(hd:C.dst=d)
  (g:(Gt ops&& (GI md ops A i&& ((FP md ops A).contains i&&late.contains i)))=true)
  (E:∀c a w,Q (.panic c) (a.put d v) w->Q (.panic c) a w)(F:IL P ops (fun _=>True) C v a)
  (h:cK P md ops Q late S j (A.setIfInBounds i true) (a.put d v) w):cK P md ops Q late S (j+1) A a w:=by
 subst hd;simp only[FG]at g;exact oW D (Is g.1) E g.2.2.2 j A a w (II D g.2.1) (by simpa using g.2.2.1) F h
def mG(md:GS)(ops:Array Oper)(late:List Nat)(listed:Array Bool)(i:Nat):Bool:=late.all fun j=>listed.getD j false||hB md ops i (ops.size+1) j
theorem pf{E:Oper}(Z:ops[i]? =some E)(a2:∀ (j:Nat) (o:Oper) cs b,ops[j]? =some o->o.op≠ .select cs b)
  (hQ:∀c a w,Q (.panic c) (a.put E.dst v) w->Q (.panic c) a w)(R:Nat):∀ (g:Array Bool) (a:Act) (w:Fk),mG md ops late g i=true->
   hy md ops g->
   (∀j D,ops[j]? =some D->j≠i->g.getD j true=false->(∀e∈D.after,HK md e=true->e.on≠i)->E.apart ops D=true)->
   i∈FP md ops g->IL P ops S E v a->S w->
   cK P md ops Q late S R (g.setIfInBounds i true) (a.put E.dst v) w->cK P md ops Q late S (R+1) g a w:=by
 induction R with
 |zero=>
  intro g a w _ _ _ F V G H;refine⟨fun h=>absurd F (by rw[h];simp),fun j K=>?_⟩;have C:j=i:=HV fun a8=>by have h0:=HT K a8;rw[H.1]at h0;simp at h0
  subst C;exact V.wpOp Z G ⟨fun _=>G,H⟩
 |succ R ih=>
  intro g a w hl a5 a3 F V G H;refine⟨fun h=>absurd F (by rw[h];simp),fun j K=>?_⟩;rcases HY (j=i) with C|C
  .subst C;exact V.wpOp Z G ⟨fun _=>G,H⟩
  .obtain⟨Y,D,N,a1⟩:=Il.1 K;have b4:g.getD i false=false:=by
    cases h:g.getD i false with
    |false=>rfl
    |true=>exact(eU (Il.1 F).1 h).elim
   have a0:∀e∈D.after,HK md e=true->e.on≠i:=fun e W U a6=>by have J:=a1 e W U;rw[a6]at J;exact eU (Il.1 F).1 J
   have a7:late.contains j=false:=by
    cases hc:late.contains j with
    |false=>rfl
    |true=>
     have A:=GC.1 hl j (by simpa using hc);rw[HH]at A;rcases A with A|A
     .exact(eU Y A).elim
     simp only[hB,N,Array.any_eq_true',FG,HH,beq_iff_eq]at A;obtain⟨e,W,U,h⟩:=A;rcases h with h|h
     .exact absurd h (a0 e W U)
     .have J:=a1 e W U;rw[hx a5 b4 _ _ h]at J;cases J
   have h2:=wpOp_putIf N (a3 j D N C Y a0) (fun cs b=>a2 i E cs b Z) (fun cs b=>a2 j D cs b N) hQ V (H.2 j (HT K C));refine wpOp_mono (fun a' w' M=>⟨M.2.1,ih (g.setIfInBounds j true) a' w' ?_ (a5.add K) ?_ (HT F (Gp C)) M.1 (M.2.1 a7) ?_⟩) h2
   .refine GC.2 fun k hk=>?_;have A:=GC.1 hl k hk;rw[HH]at A ⊢;exact A.imp (fun h=>kb h) (fun h=>h)
   .intro k ok hk a9 a4 b5;refine a3 k ok hk a9 ?_ b5;rcases HY (j=k) with X|X
    .subst X;exact Y
    .rw[getD_set_ne true X]at a4;exact a4
   .rw[Gq _ _ C];exact M.2.2
theorem ls(i:Nat)(d:Option Tmp){C:Oper}{g:Array Bool}{a:Act}(D:ops[i]? =some C)(hd:C.dst=d)
  (A:(Gt ops&& (GI md ops g i&& ((FP md ops g).contains i&& (mG md ops late g i&&bM md ops g))))=true)
  (E:∀c a w,Q (.panic c) (a.put d v) w->Q (.panic c) a w)(F:S w)(G:IL P ops S C v a)
  (h:cK P md ops Q late S j (g.setIfInBounds i true) (a.put d v) w):cK P md ops Q late S (j+1) g a w:=by
 subst hd;simp only[FG]at A;exact pf D (Is A.1) E j g a w A.2.2.2.1 (lC A.2.2.2.2) (II D A.2.1) (by simpa using A.2.2.1) G F h
end
section
variable {ops:Array Oper} {Q:Exit→Act→Fk→Prop} {late:List Nat} {S:Fk→Prop} {f:Nat} {listed:Array Bool}
theorem kn{α β:Type}{E1:El α}{E2:El β}{a:Act}{B:Nat}(b1 K b2 a2:Nat){b4 b7 a4 d6:Oper}(F e1 E e2:Tmp)(t1 t2:GA)(a5 y1 s2 y2:Tmp)
  (X:ops[b1]? =some b4/\ops[K]? =some b7/\ops[b2]? =some a4/\ops[a2]? =some d6)
  (hg:b4.guard=none/\b7.guard=none/\a4.guard=none/\d6.guard=none)(hd:b4.dst=some F/\b7.dst=some e1/\a4.dst=some E/\d6.dst=some e2)
  (r0:FP .any ops listed=[b1,b2])(r1:FP .any ops (listed.setIfInBounds b1 true)=[K,b2])(r2:FP .any ops (listed.setIfInBounds b2 true)=[b1])
  (r3:FP .any ops ((listed.setIfInBounds b1 true).setIfInBounds K true)=[b2])(r4:FP .any ops ((listed.setIfInBounds b1 true).setIfInBounds b2 true)=[K])
  (r5:FP .any ops (((listed.setIfInBounds b1 true).setIfInBounds K true).setIfInBounds b2 true)=[a2])(f9:(b1 !=b2&&K !=b2)=true)
  (R:b4.op= .buildSlice t1 1 #[(0,.tmp y1)]/\b7.op= .call {callee:= .builtin .append,args:= #[.tmp a5,.tmp F],argTypes:= #[t1,t1]}/\a4.op= .buildSlice t2 1 #[(0,.tmp y2)]/\d6.op= .call {callee:= .builtin .append,args:= #[.tmp s2,.tmp E],argTypes:= #[t2,t2]})
  (d5:(decide (F<a.tmps.size)&& (decide (e1<a.tmps.size)&& (decide (E<a.tmps.size)&&decide (e2<a.tmps.size))))=true)
  (h4:(y1 !=E&& (a5 !=F&& (a5 !=E&& (y2 !=F&& (y2 !=e1&& (s2 !=F&& (s2 !=e1&& (s2 !=E&& (F !=E&&e1 !=E)))))))))=true)
  (i4:yV E1 t1)(i0:yV E2 t2)(i8:ys E1)(j3:ys E2){M:List α}{l2:List β}(h5:a.eval (.tmp a5)=v0)(i3:a.eval (.tmp s2)=v1)(g3:aL E1 B w v0 M)(g9:aL E2 B w v1 l2)(g4:∀c,v0.ownBlock=some c->v1.ownBlock≠some c)
  (e5 b8:Fr)(a0 N:List Fr)(x1:α)(x2:β)(g7:a.eval (.tmp y1)=e5)(f6:a.eval (.tmp y2)=b8)(b5:e5.cells=a0.toArray/\b8.cells=N.toArray)(f7:∀ok W,E1.L ok W a0 x1)(h6:∀ok W,E2.L ok W N x2)(g6:M.length<=10000000/\l2.length<=10000000)(hB:B<=w.1.size)
  (Z:∀W,(∀c,c<w.1.size->v0.ownBlock≠some c->v1.ownBlock≠some c->W.1[c]? =w.1[c]?)->S W)
  (h:∀u1 u2 C J Y k2 W,aL E1 B W (.slice (some ⟨C,0,none⟩) (M.length+1) J) (M++[x1])->aL E2 B W (.slice (some ⟨Y,0,none⟩) (l2.length+1) k2) (l2++[x2])->FM B w W->(∀c,c<w.1.size->v0.ownBlock≠some c->v1.ownBlock≠some c->W.1[c]? =w.1[c]?)->(v0.ownBlock=some C∨w.1.size<=C)->(v1.ownBlock=some Y∨w.1.size<=Y)->C≠Y->
    cK prog .any ops Q late S f ((((listed.setIfInBounds b1 true).setIfInBounds K true).setIfInBounds b2 true).setIfInBounds a2 true) ((((a.put (some F) u1).put (some e1) (.slice (some ⟨C,0,none⟩) (M.length+1) J)).put (some E) u2).put (some e2) (.slice (some ⟨Y,0,none⟩) (l2.length+1) k2)) W):
  cK prog .any ops Q late S (f+4) listed a w:=by
 simp only[FG,bne_iff_ne,ne_eq]at h4 f9;simp only[FG,decide_eq_true_eq]at d5;obtain⟨i1,z1,f0,e6,d4,e9,d3,e7,h7,g8⟩:=i4;obtain⟨i2,z2,e0,d8,e4,d9,e3,e8,f4,j0⟩:=i0;obtain⟨n1,n2,n3,n4,n5,n6,n7,n8,n9,i7⟩:=h4;have h8:=(E1.cells (f7 (fun _=>True) w)).1;have f5:=(E2.cells (h6 (fun _=>True) w)).1;have i6:∀c,v0.ownBlock=some c->c<w.1.size:=fun c g=> (g3.DC g).2;have f2:∀c,v1.ownBlock=some c->c<w.1.size:=fun c g=> (g9.DC g).2;have h0:∀u1 C J gb W,aL E1 B W (.slice (some ⟨C,0,none⟩) (M.length+1) J) (M++[x1])->ak W gb E2.ty N->FM B w W->(∀c,c<w.1.size->v0.ownBlock≠some c->W.1[c]? =w.1[c]?)->(v0.ownBlock=some C∨w.1.size<=C)->
   cK prog .any ops Q late S (f+1) (((listed.setIfInBounds b1 true).setIfInBounds K true).setIfInBounds b2 true) (((a.put (some F) u1).put (some e1) (.slice (some ⟨C,0,none⟩) (M.length+1) J)).put (some E) (.slice (some ⟨gb,0,none⟩) 1 1)) W:=fun u1 C J gb W hA hb G hk f1=>by
  refine cf a2 r5 X.2.2.2 hg.2.2.2 fun b9 H=>?_;have j2:aL E2 B W v1 l2:=aL.flat j3 g9 fun c g=>hk c (f2 c g) fun e=>g4 c e g;refine cw E2 (.tmp s2) (.tmp E) t2 R.2.2.2 i2 z2 e0 d8 e4 d9 e3 e8 j0 B W v1 l2 ?_ j2 N x2 (h6 _ _) gb E2.ty hb ?_ g6.2 (FU hB G.size) fun Y k2 V c9 d0 a3 a9=>?_
  .rw[cx n8,cx n7,cx n6];exact i3
  .exact dO (by rw[bt,bt];exact d5.2.2.1)
  .rw[hd.2.2.2];have j1:C≠Y:=fun e=>by
    subst e;rcases a9 with A|A
    .rcases f1 with h2|h2
     .exact g4 _ h2 A
     .have:=f2 _ A;omega
    .have:=(hA.DC (c:=C) (by simp[GF])).2;omega
   have U:∀c,c<w.1.size->v0.ownBlock≠some c->v1.ownBlock≠some c->V.1[c]? =w.1[c]? :=fun c g A h2=> (a3 c (FJ g G.size) h2).trans (hk c g A);refine H _ _ (fun _=>Z _ U) ?_;refine h u1 _ C J Y k2 V (aL.flat i8 hA fun c g=>?_) c9 (G.trans d0) U f1 ?_ j1
   .have e2:C=c:=by simpa [GF]using g
    subst e2;refine a3 _ (hA.DC g).2 fun e=>?_;rcases f1 with h2|h2
    .exact g4 _ h2 e
    .have:=f2 _ e;omega
   .rcases a9 with A|A
    .exact .inl A
    .exact .inr (by rw[A];exact G.size)
 have mid:∀d7 a6 W,ak W d7 E1.ty a0->ak W a6 E2.ty N->bL w W->w.1.size<=a6->cK prog .any ops Q late S (f+2) ((listed.setIfInBounds b1 true).setIfInBounds b2 true) ((a.put (some F) (.slice (some ⟨d7,0,none⟩) 1 1)).put (some E) (.slice (some ⟨a6,0,none⟩) 1 1)) W:=fun d7 a6 W a8 a7 G j5=>by
  refine cf K r4 X.2.1 hg.2.1 fun b9 H=>?_;refine cw E1 (.tmp a5) (.tmp F) t1 R.2.1 i1 z1 f0 e6 d4 e9 d3 e7 g8 B W v0 M ?_ (g3.below G) a0 x1 (f7 _ _) d7 E1.ty a8 ?_ g6.1 (FU hB G.size) fun C J V c9 d0 a3 a9=>?_
  .rw[cx n3,cx n2];exact h5
  .rw[cx n9];exact dO d5.1
  .rw[hd.2.1];have U:∀c,c<w.1.size->v0.ownBlock≠some c->V.1[c]? =w.1[c]? :=fun c g A=> (a3 c (FJ g G.size) A).trans (G.block c g);apply H _ _ (fun _=>Z _ fun c g A _=>U c g A);rw[dA (fun e=>i7 e.symm),Gq _ _ (fun e=>f9.2 e.symm)];apply h0 _ C J a6 V c9 (a7.of (a3 a6 a7.lt fun e=>by have:=i6 _ e;omega)) ((G.mono hB).trans d0) U;rcases a9 with A|A
   .exact .inl A
   .exact .inr (by rw[A];exact G.size)
 refine cj [b1,b2] r0 ?_ (by simp);intro j hj;simp only[FQ,FO,or_false]at hj;rcases hj with rfl|rfl
 .refine⟨b4,X.1,hg.1,fun b9 H=>?_⟩;refine cF (.tmp y1) R.1 f0 e6 d4 e9 d3 e7 h7 e5 a0 g7 b5.1 h8 fun W1 a8 D i9=>?_;rw[hd.1];refine H _ _ (fun _=>Z _ fun c g _ _=>D.block c g) ?_;refine cj [K,b2] r1 ?_ (by simp);intro j hj;simp only[FQ,FO,or_false]at hj;rcases hj with rfl|rfl
  .refine⟨b7,X.2.1,hg.2.1,fun b9 H=>?_⟩;refine cw E1 (.tmp a5) (.tmp F) t1 R.2.1 i1 z1 f0 e6 d4 e9 d3 e7 g8 B W1 v0 M ?_ (g3.below D) a0 x1 (f7 _ _) _ E1.ty a8 ?_ g6.1 (FU hB D.size) fun C J V c9 d0 a3 a9=>?_
   .rw[cx n2];exact h5
   .exact dO d5.1
   .rw[hd.2.1];have U:∀c,c<w.1.size->v0.ownBlock≠some c->V.1[c]? =w.1[c]? :=fun c g A=> (a3 c (FJ g D.size) A).trans (D.block c g);have g5:FM B w V:=(D.mono hB).trans d0;apply H _ _ (fun _=>Z _ fun c g A _=>U c g A);refine cf b2 r3 X.2.2.1 hg.2.2.1 fun K2 f3=>?_;refine cF (.tmp y2) R.2.2.1 e0 d8 e4 d9 e3 e8 f4 b8 N (by rw[cx n5,cx n4];exact f6) b5.2 f5 fun W4 i5 f8 j4=>?_;rw[hd.2.2.1];have h3:∀c,c<w.1.size->v0.ownBlock≠some c->W4.1[c]? =w.1[c]? :=fun c g A=> (f8.block c (FJ g g5.size)).trans (U c g A);refine f3 _ _ (fun _=>Z _ fun c g A _=>h3 c g A) ?_;refine h0 _ C J _ W4 (c9.below f8) i5 (g5.trans (f8.mono (FU hB g5.size))) h3 ?_;rcases a9 with A|A
    .exact .inl A
    .exact .inr (by rw[A];exact D.size)
  .refine⟨a4,X.2.2.1,hg.2.2.1,fun b9 H=>?_⟩;refine cF (.tmp y2) R.2.2.1 e0 d8 e4 d9 e3 e8 f4 b8 N (by rw[cx n4];exact f6) b5.2 f5 fun W2 a7 b6 h9=>?_;rw[hd.2.2.1];have c8:=D.trans (b6.mono D.size);refine H _ _ (fun _=>Z _ fun c g _ _=>c8.block c g) ?_;exact mid _ _ W2 (a8.below b6) a7 c8 D.size
 .refine⟨a4,X.2.2.1,hg.2.2.1,fun b9 H=>?_⟩;refine cF (.tmp y2) R.2.2.1 e0 d8 e4 d9 e3 e8 f4 b8 N f6 b5.2 f5 fun W1 a8 D i9=>?_;rw[hd.2.2.1];refine H _ _ (fun _=>Z _ fun c g _ _=>D.block c g) ?_;refine cf b1 r2 X.1 hg.1 fun K2 f3=>?_;refine cF (.tmp y1) R.1 f0 e6 d4 e9 d3 e7 h7 e5 a0 (by rw[cx n1];exact g7) b5.1 h8 fun W2 a7 b6 h9=>?_;rw[hd.1];have c8:=D.trans (b6.mono D.size);apply f3 _ _ (fun _=>Z _ fun c g _ _=>c8.block c g);have:=mid W1.1.size w.1.size W2 a7 (a8.below b6) c8 rl;rw[dA n9,Gq _ _ f9.1]at this;exact this
end
section
variable {P:Program} {ops:Array Oper} {Q:Exit→Act→Fk→Prop} {md:GS} {late:List Nat} {S:Fk→Prop}
theorem el(i:Nat)(d:Option Tmp){A:Oper}{g:Array Bool}{a:Act}(H:Hid (S w))
  (h:cK P md ops Q late S j (g.setIfInBounds i true) (a.put d v) w)
  (J:ops[i]? =some A:=by rfl)(hd:A.dst=d:=by rfl)
  (F:(Gt ops&& (GI md ops g i&& ((FP md ops g).contains i&& (mG md ops late g i&&bM md ops g))))=true:=by kernel_rfl)
  (C:∀c a w,Q (.panic c) (a.put d v) w->Q (.panic c) a w:=by exact fun _ _ _ h=>h)
  (G:Gh A (yielded ops a.tmps)=true:=by rfl)
  (E:∀w',S w'->(execOp a.eval A).run P w'= .ok (.value v) w':=by intro K D;clear D;go_simp;first|with_reducible rfl|rw[am (by omega)]):cK P md ops Q late S (j+1) g a w:=
 ls i d J hd F C H (GJ ⟨G,E⟩) h
theorem ld(F:Fk->Prop)(i:Nat)(d:Option Tmp){A:Oper}{g:Array Bool}{a:Act}(J:Hid (S w))(M:∀w,S w->F w)
  (h:cK P md ops Q late S j (g.setIfInBounds i true) (a.put d v) w)
  (K:ops[i]? =some A:=by rfl)(hd:A.dst=d:=by rfl)
  (G:(Gt ops&& (GI md ops g i&& ((FP md ops g).contains i&& (mG md ops late g i&&bM md ops g))))=true:=by kernel_rfl)
  (D:∀c a w,Q (.panic c) (a.put d v) w->Q (.panic c) a w:=by exact fun _ _ _ h=>h)
  (H:Gh A (yielded ops a.tmps)=true:=by rfl)
  (E:∀w',F w'->(execOp a.eval A).run P w'= .ok (.value v) w':=by intro R N;go_simp;first|with_reducible rfl|rw[am (by omega)]):cK P md ops Q late S (j+1) g a w:=
 ls i d K hd G D J (GJ ⟨H,fun w' C=>E w' (M w' C)⟩) h
end
def jX(ty:GA)(sz:Nat):El (List Fr):=⟨ty,sz,fun _ _ cs x=>cs=x/\x.length=sz/\∀v∈x,v.oneCell'=true,fun _ h=>h,fun _ h=>h,fun h=>⟨h.1▸h.2.1,h.1▸h.2.2⟩,fun h=>h⟩
theorem dw(ty:GA)(sz:Nat):ys (jX ty sz):=fun _ _ _ _ _ _ h=>h
def bV:Fr:= .slice none 0 0
def uA(k:Nat):GA×Nat:=[(2,1),(3,1),(3,1),(71,3),(9,1),(9,1),(9,1),(9,1),(9,1)].getD k (9,1)
structure Gs (B:Nat) (w:Fk) (vs:List Fr) (Ls:List (List (List Fr))):Prop where
 gr:∀k,k<9->aL (jX (uA k).1 (uA k).2) B w (vs.getD k bV) (Ls.getD k [])
 ap:∀i j c,i≠j->(vs.getD i bV).ownBlock=some c->(vs.getD j bV).ownBlock≠some c
 len:vs.length=9/\Ls.length=9
theorem cJ{g:Type}(l:List g)(i:Nat)(u d:g)(h:i<l.length):(l.set i u).getD i d=u:=by rw[FD,Hj h];rfl
theorem bH{g:Type}(l:List g)(u d:g)(h:i≠j):(l.set i u).getD j d=l.getD j d:=by rw[FD,Ge h,<-FD]
section
variable {B:Nat} {w W:Fk} {vs:List Fr} {Ls:List (List (List Fr))}
theorem Gs.lt(h:Gs B w vs Ls)(g:(vs.getD k bV).ownBlock=some c):B<=c/\c<w.1.size:=by
 by_cases j:k<9
 .exact(h.gr k j).DC g
 .rw[FD,List.getElem?_eq_none (by rw[h.len.1];omega)]at g;simp[bV,GF]at g
theorem Gs.keep(h:Gs B w vs Ls)(g:∀k c,(vs.getD k bV).ownBlock=some c->W.1[c]? =w.1[c]?):Gs B W vs Ls:=
 ⟨fun k A=>aL.flat (dw _ _) (h.gr k A) fun c j=>g k c j,h.ap,h.len⟩
theorem Gs.below(h:Gs B w vs Ls)(j:bL w W):Gs B W vs Ls:=h.keep fun _ c g=>j.block c (h.lt g).2
theorem Gs.ch(h:Gs B w vs Ls)(A:Ch b w W)(g:b<B∨∀k,(vs.getD k bV).ownBlock≠some b):Gs B W vs Ls:=h.keep fun k c j=>A.FB fun e=>by
 rcases g with g|g
 .have:=(h.lt j).1;omega
 .exact g k (e▸j)
theorem Gs.ED(h:Gs B w vs Ls)(g:iz b w W)(A:b<B):Gs B W vs Ls:=h.keep fun k c j=>g.block c (by have:=(h.lt j).1;omega)
theorem Gs.set1(h:Gs B w vs Ls)(D:i<9){L:List (List Fr)}(N:aL (jX (uA i).1 (uA i).2) B W u L)(Q:∀c,c<w.1.size->(vs.getD i bV).ownBlock≠some c->W.1[c]? =w.1[c]?)(R:∀c,u.ownBlock=some c->(vs.getD i bV).ownBlock=some c∨w.1.size<=c):Gs B W (vs.set i u) (Ls.set i L):=by
 have J:∀j c,i≠j->u.ownBlock=some c->(vs.getD j bV).ownBlock≠some c:=fun j c S C e=>by
  rcases R c C with G|G
  .exact h.ap i j c S G e
  .have:=(h.lt e).2;omega
 refine⟨fun k M=>?_,fun a b c E A g=>?_,by simp[h.len]⟩
 .by_cases e:i=k
  .subst e;rw[cJ _ _ _ _ (by rw[h.len.1];exact D),cJ _ _ _ _ (by rw[h.len.2];exact D)];exact N
  .rw[bH _ _ _ e,bH _ _ _ e];exact aL.flat (dw _ _) (h.gr k M) fun c C=>Q c (h.lt C).2 fun K=>h.ap i k c e K C
 .by_cases F:i=a
  .subst F;rw[cJ _ _ _ _ (by rw[h.len.1];exact D)]at A;rw[bH _ _ _ E]at g;exact J b c E A g
  .rw[bH _ _ _ F]at A;by_cases H:i=b
   .subst H;rw[cJ _ _ _ _ (by rw[h.len.1];exact D)]at g;exact J a c F g A
   .rw[bH _ _ _ H]at g;exact h.ap a b c E A g
theorem Gs.set2(h:Gs B w vs Ls)(V:i<9)(Y:j<9)(a5:i≠j){K N:List (List Fr)}(a1:aL (jX (uA i).1 (uA i).2) B W v0 K)(a4:aL (jX (uA j).1 (uA j).2) B W v1 N)(hk:∀c,c<w.1.size->(vs.getD i bV).ownBlock≠some c->(vs.getD j bV).ownBlock≠some c->W.1[c]? =w.1[c]?)
  (a2:∀c,v0.ownBlock=some c->(vs.getD i bV).ownBlock=some c∨w.1.size<=c)(a3:∀c,v1.ownBlock=some c->(vs.getD j bV).ownBlock=some c∨w.1.size<=c)(U:∀c,v0.ownBlock=some c->v1.ownBlock≠some c):Gs B W ((vs.set i v0).set j v1) ((Ls.set i K).set j N):=by
 have M:i<vs.length/\j<vs.length/\i<Ls.length/\j<Ls.length:=by rw[h.len.1,h.len.2];exact⟨V,Y,V,Y⟩
 have X:∀k,((vs.set i v0).set j v1).getD k bV=if k=j then v1 else if k=i then v0 else vs.getD k bV:=fun k=>by
  by_cases e:k=j
  .subst e;rw[aD rfl,cJ _ _ _ _ (by simp;exact M.2.1)]
  .rw[am e,bH _ _ _ (fun g=>e g.symm)];by_cases g:k=i
   .subst g;rw[aD rfl,cJ _ _ _ _ M.1]
   .rw[am g,bH _ _ _ (fun D=>g D.symm)]
 have hL:∀k,((Ls.set i K).set j N).getD k []=if k=j then N else if k=i then K else Ls.getD k []:=fun k=>by
  by_cases e:k=j
  .subst e;rw[aD rfl,cJ _ _ _ _ (by simp;exact M.2.2.2)]
  .rw[am e,bH _ _ _ (fun g=>e g.symm)];by_cases g:k=i
   .subst g;rw[aD rfl,cJ _ _ _ _ M.2.2.1]
   .rw[am g,bH _ _ _ (fun D=>g D.symm)]
 have H:∀k c,k≠i->(vs.getD k bV).ownBlock=some c->v0.ownBlock≠some c:=fun k c e E g=>by
  rcases a2 c g with H|H
  .exact h.ap i k c (fun D=>e D.symm) H E
  .have:=(h.lt E).2;omega
 have Z:∀k c,k≠j->(vs.getD k bV).ownBlock=some c->v1.ownBlock≠some c:=fun k c e E g=>by
  rcases a3 c g with H|H
  .exact h.ap j k c (fun D=>e D.symm) H E
  .have:=(h.lt E).2;omega
 refine⟨fun k a0=>?_,fun a b c R C A=>?_,by simp[h.len]⟩
 .rw[X,hL];by_cases e:k=j
  .subst e;simpa using a4
  .by_cases g:k=i
   .subst g;simpa [e]using a1
   .simp only[e,g,if_false];exact aL.flat (dw _ _) (h.gr k a0) fun c E=>hk c (h.lt E).2 (fun D=>h.ap i k c (fun S=>g S.symm) D E) fun D=>h.ap j k c (fun S=>e S.symm) D E
 .rw[X]at C A;by_cases Q:a=j
  .rw[aD Q]at C;have G:b≠j:=fun e=>R (Q.trans e.symm);rw[am G]at A;by_cases F:b=i
   .rw[aD F]at A;exact U c A C
   .rw[am F]at A;exact Z b c G A C
  .rw[am Q]at C;by_cases J:a=i
   .rw[aD J]at C;by_cases G:b=j
    .rw[aD G]at A;exact U c C A
    .rw[am G]at A;have F:b≠i:=fun e=>R (J.trans e.symm);rw[am F]at A;exact H b c F A C
   .rw[am J]at C;by_cases G:b=j
    .rw[aD G]at A;exact Z a c Q C A
    .rw[am G]at A;by_cases F:b=i
     .rw[aD F]at A;exact H a c J C A
     .rw[am F]at A;exact h.ap a b c R C A
end
def cI(x:Int):List Fr:=[.int .i64 x]
def cS(s:ByteArray):List Fr:=[.string s]
def cT(t:Th):List Fr:=[.string t.name,.int .i64 (t.locals:Int),bV]
def eW(P:Pg):List (List (List Fr)):=[P.vars.map cI,P.CW.map cI,P.CX.map cI,P.threads.map cT,P.nv.map cS,P.na.map cS,P.nm.map cS,P.nc.map cS,P.nh.map cS]
def fb(P:Pg)(vs:List Fr):List Fr:=[vs.getD 0 bV,vs.getD 1 bV,.int .i64 (P.CT:Int),.int .i64 (P.conds:Int),vs.getD 2 bV,vs.getD 3 bV,.int .i64 (P.main:Int),.int .i64 (P.stmts:Int),vs.getD 4 bV,vs.getD 5 bV,vs.getD 6 bV,vs.getD 7 bV,vs.getD 8 bV]
theorem Gs.nil(B:Nat)(w:Fk):Gs B w (Ie 9 bV) (eW fz):=by
 have h:∀k,(Ie 9 bV).getD k bV=bV:=fun k=>by rcases k with _|_|_|_|_|_|_|_|_|k<;>rfl
 have A:∀k,(eW fz).getD k []=[]:=fun k=>by rcases k with _|_|_|_|_|_|_|_|_|k<;>rfl
 refine⟨fun k _=>?_,fun i j c _ g=>?_,z,z⟩
 .rw[h,A];exact aL.nil _ _ _
 .rw[h]at g;simp[bV,GF]at g
def AY:ByteArray:=⟨#[118,97,114,32,120,32,61,32,49,59,32,116,104,114,101,97,100,32,109,97,105,110,32,123,32,108,101,116,32,121,32,61,32,120,59,32,120,32,61,32,121,32,43,32,49,59,32,112,114,105,110,116,32,120,59,32,125]⟩
def AW:ByteArray:=⟨#[116,104,114,101,97,100,32,109,97,105,110,32,123,32,120,32,61,32,49,59,32,125]⟩
def BV:List Wd:=[⟨3,⟨#[118,97,114]⟩,0,1,1⟩,⟨1,⟨#[120]⟩,0,1,5⟩,⟨4,⟨#[61]⟩,0,1,7⟩,⟨2,⟨#[49]⟩,1,1,9⟩,⟨4,⟨#[59]⟩,0,1,10⟩,⟨3,⟨#[116,104,114,101,97,100]⟩,0,1,12⟩,⟨1,⟨#[109,97,105,110]⟩,0,1,19⟩,⟨4,⟨#[123]⟩,0,1,24⟩,⟨3,⟨#[108,101,116]⟩,0,1,26⟩,⟨1,⟨#[121]⟩,0,1,30⟩,⟨4,⟨#[61]⟩,0,1,32⟩,⟨1,⟨#[120]⟩,0,1,34⟩,⟨4,⟨#[59]⟩,0,1,35⟩,⟨1,⟨#[120]⟩,0,1,37⟩,⟨4,⟨#[61]⟩,0,1,39⟩,⟨1,⟨#[121]⟩,0,1,41⟩,⟨4,⟨#[43]⟩,0,1,43⟩,⟨2,⟨#[49]⟩,1,1,45⟩,⟨4,⟨#[59]⟩,0,1,46⟩,⟨3,⟨#[112,114,105,110,116]⟩,0,1,48⟩,⟨1,⟨#[120]⟩,0,1,54⟩,⟨4,⟨#[59]⟩,0,1,55⟩,⟨4,⟨#[125]⟩,0,1,57⟩]
def Ca:List Wd:=[⟨3,⟨#[116,104,114,101,97,100]⟩,0,1,1⟩,⟨1,⟨#[109,97,105,110]⟩,0,1,8⟩,⟨4,⟨#[123]⟩,0,1,13⟩,⟨1,⟨#[120]⟩,0,1,15⟩,⟨4,⟨#[61]⟩,0,1,17⟩,⟨2,⟨#[49]⟩,1,1,19⟩,⟨4,⟨#[59]⟩,0,1,20⟩,⟨4,⟨#[125]⟩,0,1,22⟩]
def mZ:List De:=[⟨1,1,1,⟨#[120]⟩,1,[]⟩,⟨6,1,12,⟨#[109,97,105,110]⟩,0,[.mk 1 1 26 ⟨#[121]⟩ aq (.mk 2 0 ⟨#[120]⟩ 0 false 0 []) aT [] [] 0 0 0 false,.mk 2 1 37 ⟨#[120]⟩ aq (.mk 6 0 aq 0 false 7 [(.mk 2 0 ⟨#[121]⟩ 0 false 0 []),(.mk 1 1 aq 0 false 0 [])]) aT [] [] 0 0 0 false,.mk 15 1 48 aq aq (.mk 2 0 ⟨#[120]⟩ 0 false 0 []) aT [] [] 0 0 0 false]⟩]
def Aq:List De:=[⟨6,1,1,⟨#[109,97,105,110]⟩,0,[.mk 2 1 15 ⟨#[120]⟩ aq (.mk 1 1 aq 0 false 0 []) aT [] [] 0 0 0 false]⟩]
theorem AD:cm AY=(BV,(0,0),0):=qs 70 (by decide) (by decide) (by kernel_rfl)
theorem zY:cm AW=(Ca,(0,0),0):=qs 40 (by decide) (by decide) (by kernel_rfl)
theorem BX:iA BV 24 [] 0=some (.ok (mZ,23)):=by kernel_rfl
theorem Bm:iA Ca 9 [] 0=some (.ok (Aq,8)):=by kernel_rfl
theorem BJ:cA mZ=none:=by kernel_rfl
theorem Bg:cA Aq=none:=by kernel_rfl
theorem BS:bh AY=(mZ,(0,0),0):=by unfold bh;rw[AD];dsimp only;rw[aD rfl,show BV.length+1=24 from rfl,BX];dsimp only;rw[BJ]
theorem Cc:bh AW=(Aq,(0,0),0):=by unfold bh;rw[zY];dsimp only;rw[aD rfl,show Ca.length+1=9 from rfl,Bm];dsimp only;rw[Bg]
def pQ(l:List De):Pg× (Int×Int)×Int:=if co ah l=true then cW l else (fz,(0,0),2)
theorem zT:co ah mZ=true:=by kernel_rfl
theorem AE:co ah Aq=true:=by kernel_rfl
theorem ua:(cW mZ).2=((0,0),0)/\(cW mZ).1.stmts=3/\(cW mZ).1.vars.length=1/\((cW mZ).1.threads.map (·.locals))=[1]:=⟨by kernel_rfl,by kernel_rfl,by kernel_rfl,by kernel_rfl⟩
theorem Ce:cW Aq=(fz,(1,15),131):=by kernel_rfl
theorem BI:eC pQ AY=cW mZ:=by unfold eC pQ;rw[BS];simp only[zT];rfl
theorem BH:eC pQ AW=(fz,(1,15),131):=by unfold eC pQ;rw[Cc];simp only[AE,Ce];rfl
def sk(W:Fk)(e:GP)(w':Fk):Prop:=e= .returned (.bool true)/\FM W.1.size W w'
theorem Ro.DL{j:Type}{E:El j}{ok:Nat->Prop}{cap:Nat}{l:List j}(h:Ro E ok W (.slice a n cap) l){x:j}(K:l[i]? =some x)(M:E.sz=1)(G:∀cs,E.L ok W cs x->cs=[v]):∃b g,a=some ⟨b,g,none⟩/\W.cell? ⟨b,g+i,none⟩=some v:=by obtain⟨Q,N,F,-,A⟩:=h;obtain⟨b,g,cs,D,-,C,J⟩:=A i x K;cases F;refine⟨b,g,D,?_⟩;have H:=G cs J;subst H;have w:=C 0 v z;rw[M,Nat.mul_one,Nat.add_zero]at w;exact w
theorem rF{Q Q0:Nat->Prop}(l:List Int)(A:Ro (lg 2) Q W v0 l)(C:Ro (lg 2) Q0 W v1 l):Jq prog 26 #[v0,v1] W (sk W):=by
 have b5:prog.follows .mixedOrders=true:=by kernel_rfl
 obtain⟨a1,c1,rfl,K,-⟩:=id A;obtain⟨a2,c2,rfl,b4,-⟩:=id C;obtain⟨j,N⟩:=eX (l.length);rw[N]at A C K ⊢;have Z:=O N;have V:=O A;have Y:=O C;have U:=O fun _:True=>K;clear N A C K b4;go_in;go_wp2;go_loopg [5] j (fun x iv wr=>∃i:Nat,i<=j/\x=j-i/\iv=I i/\Hid (bL W wr));case atStart=>exact⟨0,FX _,z,z,O (FB _ _)⟩
 case round=>
  obtain⟨i,hi,rfl,rfl,G⟩:=hrel;by_cases a4:i<j
  .have a7:(i:Int)< (j:Int):=by omega
   have a8:(0:Int)<=(i:Int):=by omega
   have a0:Hid (wrap64 ((i:Int)+1)=((i+1:Nat):Int)):=O (by have A:=(U trivial).1;have C:=(U trivial).2;have:=Gi ((i:Int)+1) (by omega);rw[this];omega)
   obtain⟨x,J⟩:∃x,l[i]? =some x:=⟨_,FC (by rw[Z.o];exact a4)⟩;obtain⟨b1,o1,rfl,R⟩:=V.DL J z (v:=I x) (fun cs h=>h);obtain⟨b2,o2,rfl,S⟩:=Y.DL J z (v:=I x) (fun cs h=>h);obtain⟨w,M⟩:=eX (wr.drew);have H:Hid (bL W w):=O (by rw[<-M];exact G.trans ((FB _ _).drew));have F:=ai H b1 (o1+i) _ R;have E:=ai H b2 (o2+i) _ S;have a3:=O F;have a5:=O E;clear R S F E J;go_wp2;apply al [] (fun a9=>a9=w) b5;rw[M];clear M G;have g:Hid (w=w):=O z;refine ke 0 ?_;refine aM 3 (some 20) (v:=?_) z z (by kernel_rfl) (fun _ _ _ h=>h) g (GJ ⟨by rfl,?_⟩) ?_;rotate_left
   .intro X D;have F:=a3.o;rw[D];clear D;go_simp;first|with_reducible rfl|rw[am (by omega)]
   refine nm ?_;refine ke 4 ?_;refine aM 7 (some 24) (v:=?_) z z (by kernel_rfl) (fun _ _ _ h=>h) g (GJ ⟨by rfl,?_⟩) ?_;rotate_left
   .intro X D;have E:=a5.o;rw[D];clear D;go_simp;first|with_reducible rfl|rw[am (by omega)]
   refine nm ?_;refine fa 8 ?_;refine nm ?_;refine dn ?_;clear g;go_wp2;go_roundg (j- (i+1));case measure=>omega
   case rel=>exact⟨i+1,by omega,z,congrArg (Gr .i64) a0,H⟩
  .obtain rfl:i=j:=by omega
   have a6:¬ (i:Int)< (i:Int):=by omega
   go_wp2;go_ret;exact⟨z,G⟩
theorem lt{Q Q0:Nat->Prop}(l:List Int)(A:Ro (lg 3) Q W v0 l)(C:Ro (lg 3) Q0 W v1 l):Jq prog 27 #[v0,v1] W (sk W):=by
 have b5:prog.follows .mixedOrders=true:=by kernel_rfl
 obtain⟨a1,c1,rfl,K,-⟩:=id A;obtain⟨a2,c2,rfl,b4,-⟩:=id C;obtain⟨j,N⟩:=eX (l.length);rw[N]at A C K ⊢;have Z:=O N;have V:=O A;have Y:=O C;have U:=O fun _:True=>K;clear N A C K b4;go_in;go_wp2;go_loopg [5] j (fun x iv wr=>∃i:Nat,i<=j/\x=j-i/\iv=I i/\Hid (bL W wr));case atStart=>exact⟨0,FX _,z,z,O (FB _ _)⟩
 case round=>
  obtain⟨i,hi,rfl,rfl,G⟩:=hrel;by_cases a4:i<j
  .have a7:(i:Int)< (j:Int):=by omega
   have a8:(0:Int)<=(i:Int):=by omega
   have a0:Hid (wrap64 ((i:Int)+1)=((i+1:Nat):Int)):=O (by have A:=(U trivial).1;have C:=(U trivial).2;have:=Gi ((i:Int)+1) (by omega);rw[this];omega)
   obtain⟨x,J⟩:∃x,l[i]? =some x:=⟨_,FC (by rw[Z.o];exact a4)⟩;obtain⟨b1,o1,rfl,R⟩:=V.DL J z (v:=I x) (fun cs h=>h);obtain⟨b2,o2,rfl,S⟩:=Y.DL J z (v:=I x) (fun cs h=>h);obtain⟨w,M⟩:=eX (wr.drew);have H:Hid (bL W w):=O (by rw[<-M];exact G.trans ((FB _ _).drew));have F:=ai H b1 (o1+i) _ R;have E:=ai H b2 (o2+i) _ S;have a3:=O F;have a5:=O E;clear R S F E J;go_wp2;apply al [] (fun a9=>a9=w) b5;rw[M];clear M G;have g:Hid (w=w):=O z;refine ke 0 ?_;refine aM 3 (some 20) (v:=?_) z z (by kernel_rfl) (fun _ _ _ h=>h) g (GJ ⟨by rfl,?_⟩) ?_;rotate_left
   .intro X D;have F:=a3.o;rw[D];clear D;go_simp;first|with_reducible rfl|rw[am (by omega)]
   refine nm ?_;refine ke 4 ?_;refine aM 7 (some 24) (v:=?_) z z (by kernel_rfl) (fun _ _ _ h=>h) g (GJ ⟨by rfl,?_⟩) ?_;rotate_left
   .intro X D;have E:=a5.o;rw[D];clear D;go_simp;first|with_reducible rfl|rw[am (by omega)]
   refine nm ?_;refine fa 8 ?_;refine nm ?_;refine dn ?_;clear g;go_wp2;go_roundg (j- (i+1));case measure=>omega
   case rel=>exact⟨i+1,by omega,z,congrArg (Gr .i64) a0,H⟩
  .obtain rfl:i=j:=by omega
   have a6:¬ (i:Int)< (i:Int):=by omega
   go_wp2;go_ret;exact⟨z,G⟩
theorem fJ{Q Q0:Nat->Prop}(l:List ByteArray)(A:Ro fl Q W v0 l)(C:Ro fl Q0 W v1 l):Jq prog 28 #[v0,v1] W (sk W):=by
 have b5:prog.follows .mixedOrders=true:=by kernel_rfl
 obtain⟨a1,c1,rfl,K,-⟩:=id A;obtain⟨a2,c2,rfl,b4,-⟩:=id C;obtain⟨j,N⟩:=eX (l.length);rw[N]at A C K ⊢;have Z:=O N;have V:=O A;have Y:=O C;have U:=O fun _:True=>K;clear N A C K b4;go_in;go_wp2;go_loopg [5] j (fun x iv wr=>∃i:Nat,i<=j/\x=j-i/\iv=I i/\Hid (bL W wr));case atStart=>exact⟨0,FX _,z,z,O (FB _ _)⟩
 case round=>
  obtain⟨i,hi,rfl,rfl,G⟩:=hrel;by_cases a4:i<j
  .have a7:(i:Int)< (j:Int):=by omega
   have a8:(0:Int)<=(i:Int):=by omega
   have a0:Hid (wrap64 ((i:Int)+1)=((i+1:Nat):Int)):=O (by have A:=(U trivial).1;have C:=(U trivial).2;have:=Gi ((i:Int)+1) (by omega);rw[this];omega)
   obtain⟨x,J⟩:∃x,l[i]? =some x:=⟨_,FC (by rw[Z.o];exact a4)⟩;obtain⟨b1,o1,rfl,R⟩:=V.DL J z (v:= .string x) (fun cs h=>h);obtain⟨b2,o2,rfl,S⟩:=Y.DL J z (v:= .string x) (fun cs h=>h);obtain⟨w,M⟩:=eX (wr.drew);have H:Hid (bL W w):=O (by rw[<-M];exact G.trans ((FB _ _).drew));have F:=ai H b1 (o1+i) _ R;have E:=ai H b2 (o2+i) _ S;have a3:=O F;have a5:=O E;clear R S F E J;go_wp2;apply al [] (fun a9=>a9=w) b5;rw[M];clear M G;have g:Hid (w=w):=O z;refine ke 0 ?_;refine aM 3 (some 20) (v:=?_) z z (by kernel_rfl) (fun _ _ _ h=>h) g (GJ ⟨by rfl,?_⟩) ?_;rotate_left
   .intro X D;have F:=a3.o;rw[D];clear D;go_simp;first|with_reducible rfl|rw[am (by omega)]
   refine nm ?_;refine ke 4 ?_;refine aM 7 (some 24) (v:=?_) z z (by kernel_rfl) (fun _ _ _ h=>h) g (GJ ⟨by rfl,?_⟩) ?_;rotate_left
   .intro X D;have E:=a5.o;rw[D];clear D;go_simp;first|with_reducible rfl|rw[am (by omega)]
   refine nm ?_;refine fa 8 ?_;refine nm ?_;refine dn ?_;clear g;go_wp2;go_roundg (j- (i+1));case measure=>omega
   case rel=>exact⟨i+1,by omega,z,congrArg (Gr .i64) a0,H⟩
  .obtain rfl:i=j:=by omega
   have a6:¬ (i:Int)< (i:Int):=by omega
   go_wp2;go_ret;exact⟨z,G⟩
end Go.Proofs.YtgppcdfgdaggjaaGreatDoor
