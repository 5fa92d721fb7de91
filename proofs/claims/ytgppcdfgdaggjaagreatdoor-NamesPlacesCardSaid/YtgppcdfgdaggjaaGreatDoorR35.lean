/- Texts laid together. No condition but what each law says. -/
import Derived.Test.YtgppcdfgdaggjaaGreatDoorR49
import Derived.Test.YtgppcdfgdaggjaaGreatDoorR34
set_option maxRecDepth 100000
set_option maxHeartbeats 8000000
namespace Go.Proofs.YtgppcdfgdaggjaaGreatDoor
open Go.RowKit Go.Maps
variable {b c g i j n n0 n5 n6 n7:Nat}{V W w w0 w1 w2:World}{a:Option Addr}{u0 u1 u2 u3 u4 u5 u6 u7 u8 u9 v v0 v1 v2 v3 v4 v5 v6 v7 v8 v9 vA vB vC vD vE vF vG vH vI vJ vK vL vM vN vP vQ vR vS vT vU vV vW vX vY vZ x0 x1 x2 x3 x4 x5 x6 x7 x8 x9 y0 y1 y2 y3 y4 y5 y6 y7 y8 y9:Value}{l2:List Value}{p p0 q r:Int}{A:Act}{G:Pg}{N:List Nm}
def cnt6:List De->Nat
 | []=>0
 |d::r=> (if d.kind=6 then 1 else 0)+cnt6 r
theorem bods_cons(L:List Nm)(n:Nat)(d:De)(r:List De):bods L n (d::r)=if d.kind=6 then (match fSts L 0 n 0 d.body with
  | .error e=> .error e
  | .ok q=>mapE (fun p=> ((q.1,q.2.2)::p.1,p.2)) (bods L q.2.1 r)) else bods L n r:=by
 rw[bods]
 split
 .cases fSts L 0 n 0 d.body with
  |error e=>rfl
  |ok q=>
   obtain⟨b,n2,mo⟩:=q
   simp only
   cases bods L n2 r<;>rfl
 .rfl
theorem putTh_len:∀ (l:List Th) (q:List (List St×Nat)),(putTh l q).length=l.length
 | [],[]=>rfl
 | [],_::_=>rfl
 |_::_,[]=>rfl
 |t::r,(b,mo)::q=>by
  show (putTh r q).length+1=r.length+1
  rw[putTh_len r q]
theorem putTh_nil(l:List Th):putTh l []=l:=by cases l<;>rfl
theorem putTh_snoc:∀ (l:List Th) (q:List (List St×Nat)) (b:List St) (mo:Nat),q.length<l.length->putTh l (q++[(b,mo)])=(putTh l q).set q.length ⟨((putTh l q).getD q.length default).name,mo,b⟩
 | [],q,b,mo,h=>by simp at h
 |t::r,[],b,mo,_=>by
  show ⟨t.name,mo,b⟩::putTh r []=_
  rw[putTh_nil,putTh_nil]
  rfl
 |t::r,(b2,m2)::q,b,mo,h=>by
  show ⟨t.name,m2,b2⟩::putTh r (q++[(b,mo)])=_
  rw[putTh_snoc r q b mo (by simpa using h)]
  rfl
def ThAt(B gt:Nat)(W:World)(C:List Value)(ts:List Th):Prop:=∀j x,ts[j]? =some x->∃cs,Th.L (fun c=> (B<=c/\c≠gt)/\c<W.1.size) W cs x/\∀t,t<3->C[j*3+t]? =cs[t]?
theorem ThAt.keep{B:Nat}{C:List Value}{E:List Th}(h:ThAt B g w C E)(J:∀c,B<=c->c≠g->c<w.1.size->W.1[c]? =w.1[c]?)(M:w.1.size<=W.1.size):ThAt B g W C E:=fun j x H=>by obtain⟨cs,K,G⟩:=h j x H;exact⟨cs,elTh.weak (fun c D=>⟨D.1,Nat.lt_of_lt_of_le D.2 M⟩) (elTh.keep (fun b o u A F=>by rw[<-F];simp[World.cellF,J b A.1.1 A.1.2 A.2]) K),G⟩
theorem ThAt.set{B sl:Nat}{C:List Value}{w:List Th}(h:ThAt B g W C w)(N:w.length*3<=C.length)(E:sl<w.length){b:List St}{mo:Nat}(H:Roomy b.length c/\StsL (fun c=> (B<=c/\c≠g)/\c<W.1.size) W a 0 b):
  ThAt B g W ((C.set (sl*3+2) (.slice a b.length c)).set (sl*3+1) (I mo)) (w.set sl ⟨(w.getD sl default).name,mo,b⟩):=fun j x A=>by
 have M:j<w.length:=by have:=(List.getElem?_eq_some_iff.1 A).1;simpa using this
 by_cases e:sl=j
 .subst e;rw[List.getElem?_set_self E]at A;cases A;obtain⟨cs,G,F⟩:=h sl w[sl] (List.getElem?_eq_getElem E);obtain⟨Q,c0,rfl,-⟩:=G;have J:w.getD sl default=w[sl]:=by rw[List.getD_eq_getElem?_getD,List.getElem?_eq_getElem E];rfl
  refine⟨[.string (w.getD sl default).name,I mo,.slice a b.length c],⟨a,c,z,H⟩,fun t D=>?_⟩;have K:=F t D;rcases t with _|_|_|t
  .rw[List.getElem?_set_ne (by omega),List.getElem?_set_ne (by omega),K,J];rfl
  .rw[List.getElem?_set_self (by simp;omega)];rfl
  .rw[List.getElem?_set_ne (by omega),List.getElem?_set_self (by omega)];rfl
  .omega
 .rw[List.getElem?_set_ne e]at A;obtain⟨cs,G,F⟩:=h j x A;exact⟨cs,G,fun t D=>by rw[List.getElem?_set_ne (by omega),List.getElem?_set_ne (by omega)];exact F t D⟩
structure Bo (w0 w:World) (B F g h gt:Nat) (P:Pg) (vs:List Value) (D:PF) (C:List Value) (ts:List Th) (W:World):Prop where
 k:KpB B F g w W
 f:Fi W F g h (pcC P vs) D
 t:Blk W gt 71 C
 a:ThAt B gt W C ts
 ln:ts.length*3<=C.length
 o:∀k,k<9->k≠3->Grow (elV (tyK k).1 (tyK k).2) B W (vs.getD k nilV) ((lsP P).getD k [])/\(vs.getD k nilV).ownBlock≠some gt
 b:Below w0.1.size w0 W
 lt:(F<B/\g<B/\h<B/\B<=gt)/\w0.1.size<=F/\w0.1.size<=g
section
variable {w0 w W W':World} {B F g h gt:Nat} {P:Pg} {vs:List Value} {D D':PF} {C C':List Value} {ts ts':List Th}
theorem Bo.call(H:Bo w0 w B F g h gt P vs D C ts W)(j:Kp W W' F g)(N:Fi W' F g h (pcC P vs) D'):Bo w0 w B F g h gt P vs D' C ts W':=by have M:=H.lt;have R:=H.t.lt;refine⟨⟨j.os.trans H.k.os,j.tape.trans H.k.tape,j.output.trans H.k.output,Nat.le_trans H.k.size j.size,fun c A E G=> (j.block c (by omega) E G).trans (H.k.block c A E G)⟩,N,H.t.kp j (by omega) (by omega),H.a.keep (fun c Q _ A=>j.block c A (by omega) (by omega)) j.size,H.ln,fun k J K=>⟨(H.o k J K).1.kp j (by omega) (by omega),(H.o k J K).2⟩,j.to_below H.b H.b.size M.2.1 M.2.2,H.lt⟩
theorem Bo.below(H:Bo w0 w B F g h gt P vs D C ts W)(j:bL W W'):Bo w0 w B F g h gt P vs D C ts W':=H.call (Kp.below j) (H.f.up j)
theorem Bo.setF(H:Bo w0 w B F g h gt P vs D C ts W)(J:Blk W' F 101 ((pcC P vs++pfT g h D).set (13+j) v))(A:Ch F W W')(E:D'.L=D.L)(G:(pfT g h D).set j v=pfT g h D'):Bo w0 w B F g h gt P vs D' C ts W':=H.call A.kpF (H.f.setC J A E G)
theorem Ch.chM{w':World}(h:Ch b w w'):ChM b w w':=⟨h.kp.os,h.kp.tape,h.kp.output,h.size,fun _ j=>h.hpc j⟩
theorem ChM.tr(A:ChM b w1 w2)(j:ChM b w2 V):ChM b w1 V:=⟨j.os.trans A.os,j.tape.trans A.tape,j.output.trans A.output,j.size.trans A.size,fun k E=> (j.block k E).trans (A.block k E)⟩
theorem Bo.setT(H:Bo w0 w B F g h gt P vs D C ts W)(K:Blk W' gt 71 C')(j:ChM gt W W')(J:ThAt B gt W C' ts')(G:ts'.length*3<=C'.length):Bo w0 w B F g h gt P vs D C' ts' W':=by have M:=H.lt;exact⟨H.k.below (j.below M.1.2.2.2 (Below.refl _ _)),H.f.of (j.block _ (by omega)) (j.block _ (by omega)) (j.block _ (by omega)),K,J.keep (fun c _ N _=>j.block c N) (Nat.le_of_eq j.size.symm),G,fun k A E=>⟨Grow.flat (elV_flat _ _) (H.o k A E).1 fun c Q=>j.block c fun e=> (H.o k A E).2 (e▸Q),(H.o k A E).2⟩,j.below (by omega) H.b,H.lt⟩
end
theorem info46d:(Tryz.prog.info? 46).map (·.size)=some 6:=by kernel_rfl
theorem under46d:∃d,Tryz.prog.underlying 46=some d/\d.isRow=true:=by
 have h:(Tryz.prog.underlying 46).map (·.isRow)=some true:=by kernel_rfl
 obtain⟨d,j,g⟩:=Option.map_eq_some_iff.1 h;exact⟨d,j,g⟩
theorem zero46d:∃i z,Tryz.prog.info? 46=some i/\i.zero=some z/\z.cells=([I 0,I 0,I 0,.string ⟨#[]⟩,I 0,.slice none 0 0]:List Value).toArray:=infoZ (by kernel_rfl)
theorem info44:(Tryz.prog.info? 44).map (·.size)=some 1:=by kernel_rfl
def BdP(w0 w:World)(B F g h gt:Nat)(P:Pg)(vs:List Value)(D:PF)(R:Except Flw (List (List St×Nat)×Nat))(e:Ending)(w':World):Prop:=KpB B F g w w'/\match R with
 | .error f=>e= .panicked [flawN f]
 | .ok (bs,n)=>e= .returned (.tuple #[])/\∃mo C,Bo w0 w B F g h gt P vs {D with n:=n,mo:=mo} C (putTh P.threads bs) w'
theorem pbod_any{B F h:Nat}{P:Pg}{vs:List Value}{D:PF}(l:List De)(a:Option Addr)(cap:Nat)(d0:Roomy l.length cap)(f0:DesL (fun _=>True) w0 a l)(H:Bo w0 w B F g h n0 P vs D l2 P.threads w)(e7:vs.getD 3 nilV= .slice (some ⟨n0,0,none⟩) n5 n6)(f6:n5=P.threads.length)(hI:D.loc=0/\D.n<=512)(a7:∀d∈l,St.sms d.body)(e5:P.threads.length=cnt6 l/\cnt6 l<=1000):
  Calls Tryz.prog 38 #[Pt F,.slice a l.length cap] w (BdP w0 w B F g h n0 P vs D (bods D.L D.n l)):=by
 obtain⟨i6,z6,f2,f1,f4⟩:=zero46d;obtain⟨g8,f5,f7⟩:=under46d;obtain⟨S,hN⟩:∃S,l.length=S:=⟨_,z⟩;rw[hN]at d0 ⊢;have HN:=O hN;have f9:=O fun _:True=>d0;have h7:=O f0;have HH:=O H;have e1:=O (And.intro e7 f6);have HI:=O hI;have i1:=O a7;have h0:=O e5;obtain⟨R,hR⟩:∃R,bods D.L D.n l=R:=⟨_,z⟩;rw[hR];have HR:=O hR;clear hN d0 f0 H e7 f6 hI a7 e5 hR;go_enter Tryz.func38,Tryz.ntmps38;refine wk fun KK f3=>?_;go_wp2_with fail;refine f3.o _ _ ?_;clear f3 KK;go_wp2_with fail
 go_loopg [4,10] S (fun x sv iv wr=>∃ (i sl:Nat) (A:PF) (C:List Value) (pre:List (List St×Nat)),i<=S/\x=S-i/\iv=I i/\sv=I sl/\Hid (pre.length=sl/\sl+cnt6 (l.drop i)=P.threads.length)/\Hid (Bo w0 w B F g h n0 P vs A C (putTh P.threads pre) wr)/\Hid (A.L=D.L/\A.loc=D.loc/\A.ce=D.ce/\A.n<=512)/\Hid (R=mapE (fun q=> (pre++q.1,q.2)) (bods D.L A.n (l.drop i))));case atStart=>exact⟨0,0,D,l2,[],Nat.zero_le _,z,z,z,O ⟨z,by rw[List.drop_zero,Nat.zero_add];exact h0.o.1.symm⟩,O (by rw[putTh_nil];exact HH.o),O ⟨z,z,z,HI.o.2⟩,O (by rw[<-HR.o];cases h:bods D.L D.n l<;>simp[mapE,h])⟩
 case round=>
  clear HH HR;obtain⟨i,sl,A,C,pre,hi,rfl,rfl,rfl,f8,V,G,d5⟩:=hrel;by_cases b5:i<S
  .have j1:(i:Int)< (S:Int):=by omega
   have i5:(0:Int)<=(i:Int):=by omega
   have e4:Hid (wrap64 ((i:Int)+1)=((i+1:Nat):Int)):=O (by have K:=(f9.o trivial).1;have h2:=(f9.o trivial).2;have:=IntWalk.wrap64_in ((i:Int)+1) (by omega);rw[this];omega)
   obtain⟨b2,d6,dc,rfl,-,e8,h8⟩:=h7.o i (by rw[HN.o];exact b5);have g1:l.getD i default∈l:=by rw[List.getD_eq_getElem?_getD,List.getElem?_eq_getElem (by rw[HN.o];exact b5)];exact List.getElem_mem _
   have d2:l.drop i=l.getD i default::l.drop (i+1):=by rw[List.drop_eq_getElem_cons (by rw[HN.o];exact b5),List.getD_eq_getElem?_getD,List.getElem?_eq_getElem (by rw[HN.o];exact b5)];rfl
   have J:=d5.o;have a1:=f8.o;rw[d2,bods_cons]at J;rw[d2]at a1;have a7:=i1.o _ g1;generalize l.getD i default=d at *;obtain⟨Z,a0,rfl,g5,g9⟩:=h8;have d9:=O J;have a2:Hid (pre.length=sl/\sl+((if d.kind=6 then 1 else 0)+cnt6 (l.drop (i+1)))=P.threads.length):=O a1;have h9:=O a7;have g2:=O (And.intro g5 g9);have e2:Hid (wr.rangeAt b2 (d6+i*6) (dcCs d (.slice Z d.body.length a0))):=O fun t v hv=>below_cl V.o.b _ _ _ (World.cellF_cell (by simpa using e8 t v hv));obtain⟨U,b7⟩:∃b,wr.1.size=b:=⟨_,z⟩;have b8:Hid (n0<U/\wr.1.size=U):=O ⟨by rw[<-b7];exact V.o.t.lt,b7⟩;obtain⟨BN,e0⟩:∃n,d.body.length=n:=⟨_,z⟩;have i0:=O e0;rw[e0]at e2;clear J a1 e8 g5 g9 d2 g1 d5 f8 a7 e0;by_cases a9:d.kind=6
   .go_wp2_with (first
     | ((with_reducible refine aa 13 (.load 46 _) ?_);refine wpList_load_mid z 46 (.tmp 12) z b2 (d6+i*6) z (dcCs d (.slice Z BN a0)) g8 e2.o f5 f7 info46d ?_)
     | ((with_reducible refine aa 6 (.alloc 46) ?_);refine wpList_alloc_blk f2 f1 f4 z z U b7 ?_;intro W4 k4 b4 s4;have K4:=O k4;have B4:=O b4;clear k4 b4)
     | ((with_reducible refine ah (.store 46 (.tmp 6) _) ?_);refine wpList_store_ch info46d z (.tmp 6) (.tmp 13) z U (dcCs d (.slice Z BN a0)) _ z z K4.o z (dcCs_one d z) ?_;intro W5 k5 c5;have a4:=O (V.o.below (c5.below (by rw[b8.o.2];exact Nat.le_refl _) B4.o));have a5:=O k5;have q0:W5.cell? ⟨U,0,none⟩=some (.int .i64 d.kind):=a5.o.cell 0;clear k5 c5 K4 B4 s4 V)
     | ((with_reducible refine ah (.store 3 (.tmp 19) _) ?_);refine wpList_store_one info3 z (.tmp 19) (.const (I 0)) z F 18 101 (I 0) _ z z z z a4.o.f.f (by simp[pcC,pfT]) ?_;intro W6 k6 c6;have Y:=O (a4.o.setF (j:=5) (D':={A with mo:=0}) k6 c6 z z);have d4:=O (c6.blk (by have:=b8.o;have:=a4.o.lt;omega) a5.o);have q5:W6.cell? ⟨U,5,none⟩=some (.slice Z BN a0):=d4.o.cell 5;clear k6 c6 a4 a5 q0)
     |fail)
    have d8:=pblk_all (w0:=w0) (F:=F) (g:=g) (h:=h) (fc:=pcC P vs) Y.o.lt.2 d.body h9.o {A with mo:=0} Z a0 W6 g2.o.1 g2.o.2 Y.o.b Y.o.f ⟨by show A.loc<=32;rw[G.o.2.1,HI.o.1];decide,G.o.2.2.2⟩;rw[i0.o]at d8;refine d8.mono ?_;clear d8 q5;rintro e W7 ⟨d3,hm⟩;obtain⟨r,hr⟩:∃r,fSts D.L 0 A.n 0 d.body=r:=⟨_,z⟩;have J:=d9.o;rw[if_pos a9,hr]at J;simp only at hm;rw[G.o.1,G.o.2.1,HI.o.1,hr]at hm;rcases r with er|⟨b',n2,Q⟩
    .obtain⟨rfl,n3,i8,hf⟩:=hm;have hq:R= .error er:=J;rw[hq];exact⟨z,(Y.o.call d3 hf).k,z⟩
    obtain⟨hf,a3,b9,rfl,g6,g3⟩:=hm;have h5:=O (fSts_n d.body D.L 0 A.n 0 b' n2 Q hr G.o.2.2.2);have h6:=O J;have g4:=O (Y.o.call d3 hf);have d7:Hid (Roomy b'.length b9/\StsL (fun c=> (B<=c/\c≠n0)/\c<W7.1.size) W7 a3 0 b'):=O ⟨g6,(StsL.bound g3).weak fun c hc=>by have i7:W6.1.size<=c:=hc.1;have K:=d4.o.lt;have h2:=b8.o;have h3:=Y.o.lt;exact⟨by omega,hc.2⟩⟩;clear J hr d3 hf g6 g3 d9;have e6:sl<P.threads.length:=by have:=a2.o.2;rw[if_pos a9]at this;omega
    have i4:(0:Int)<=(sl:Int):=by omega
    have i9:(sl:Int)< (n5:Int):=by rw[e1.o.2];omega
    have g7:(sl:Int)+1<=100000:=by have:=h0.o;omega
    have a8:=O (And.intro e6 g7);clear e6 g7;obtain⟨a6,hV⟩:∃a6,W7.drew=a6:=⟨_,z⟩;have X:Hid (Bo w0 w B F g h n0 P vs {A with n:=n2,mo:=Q} C (putTh P.threads pre) a6):=O (by rw[<-hV,G.o.1,G.o.2.1,HI.o.1];exact g4.o.below (Below.refl _ _).drew);have e9:Hid (Roomy b'.length b9/\StsL (fun c=> (B<=c/\c≠n0)/\c<a6.1.size) a6 a3 0 b'):=O (by rw[<-hV];exact⟨d7.o.1,d7.o.2.keep fun b o u _ hu=>below_cell (Below.refl _ W7).drew b o u hu⟩);obtain⟨bo,b6⟩:∃v,Value.slice a3 b'.length b9=v:=⟨_,z⟩;have d1:Hid (Value.slice a3 b'.length b9=bo/\bo.cells= #[bo]/\bo.oneCell'=true):=O ⟨b6,by rw[<-b6];exact⟨z,z⟩⟩;rw[b6];have E:=O X.o.f.f;clear g4 d7 Y d4 b6;have h4:Tryz.prog.follows .mixedOrders=true:=by kernel_rfl
    go_wp2_with fail;refine wp_region_x [11,19,20,21,22] (fun W=>Blk W F 101 (pcC P vs++pfT g h {A with n:=n2,mo:=Q})) h4 ?_;rw[hV];clear hV;refine wpX_takeP 11 (some 35) (v:=?_) z z (by kernel_rfl) (fun _ _ _ h=>h) (Or.inl ⟨by rfl,?_⟩) ?_;rotate_left
    .intro N M;clear M;go_simp;first|with_reducible rfl|rw[if_neg (by omega)]
    refine ac 0 (some 24) E ?_;refine ac 1 (some 25) E ?_;refine ac 2 (some 26) E ?_;refine nm ?_;refine ac 3 (some 27) E ?_;refine aj (fun N=>N.cell? ⟨F,5,none⟩=some (.slice (some ⟨n0,0,none⟩) n5 n6)) 4 (some 28) E (fun N M=> (M.cell 5).trans (congrArg some e1.o.1)) ?_;refine ac 5 (some 29) E ?_;refine ac 6 (some 30) E ?_;refine nm ?_;refine ac 7 (some 31) E ?_;refine ac 8 (some 32) E ?_;refine ac 9 (some 33) E ?_;refine aj (fun N=>N.cell? ⟨F,5,none⟩=some (.slice (some ⟨n0,0,none⟩) n5 n6)) 10 (some 34) E (fun N M=> (M.cell 5).trans (congrArg some e1.o.1)) ?_;refine nm ?_;refine ac 12 (some 36) E ?_;refine ac 13 (some 37) E ?_;refine ac 14 (some 38) E ?_
    refine ac 15 (some 39) E ?_;refine nm ?_;refine aj (fun N=>N.cell? ⟨F,18,none⟩=some (.int .i64 (Q:Int))) 16 (some 40) E (fun N M=>M.cell 18) ?_;refine ac 17 (some 41) E ?_;refine ac 18 (some 42) E ?_;refine nm ?_;refine wpX_store1 19 (by kernel_rfl) z z z z info44 (.tmp 42) (.tmp 36) z n0 (sl*3+2) 71 bo C (by first|rfl|simp[Act.eval]) z d1.o.2.1 d1.o.2.2 X.o.t (by have K:=X.o.ln;rw[putTh_len]at K;have:=a8.o.1;omega) ?_;intro W8 k8 c8;have K8:=O (And.intro k8 c8);clear k8 c8;refine wpX_takeP 20 (some 43) (v:=?_) z z (by kernel_rfl) (fun _ _ _ h=>h) (Or.inl ⟨by rfl,?_⟩) ?_;rotate_left
    .intro N M;clear M;go_simp;first|with_reducible rfl|rw[if_neg (by omega)]
    refine wpX_takeP 21 (some 44) (v:=?_) z z (by kernel_rfl) (fun _ _ _ h=>h) (Or.inl ⟨by rfl,?_⟩) ?_;rotate_left
    .intro N M;clear M;go_simp;first|with_reducible rfl|rw[if_neg (by omega)]
    refine nm ?_;refine wpX_store1 22 (by kernel_rfl) z z z z info3 (.tmp 44) (.tmp 40) z n0 (sl*3+1) 71 (I Q) (C.set (sl*3+2) bo) (by first|rfl|simp[Act.eval]) z z z K8.o.1 (by have K:=X.o.ln;rw[putTh_len]at K;have:=a8.o.1;simp;omega) ?_;intro W9 k9 c9;have K9:=O (And.intro k9 c9);clear k9 c9;try simp only[Act.put]
    refine dn ?_;have i2:Hid (Bo w0 w B F g h n0 P vs {A with n:=n2,mo:=Q} ((C.set (sl*3+2) bo).set (sl*3+1) (I Q)) (putTh P.threads (pre++[(b',Q)])) W9):=O (by
     have e3:=X.o.ln;have i3:sl< (putTh P.threads pre).length:=by rw[putTh_len];exact a8.o.1
     have K:=X.o.a.set e3 i3 (mo:=Q) e9.o;rw[d1.o.1]at K;rw[putTh_snoc _ _ _ _ (by rw[a2.o.1];exact a8.o.1),a2.o.1];refine X.o.setT K9.o.1 (K8.o.2.chM.tr K9.o.2.chM) K ?_;simp only[List.length_set];exact e3)
    clear K8 K9 X e9 E;go_wp2_with fail;go_roundg (S- (i+1));case measure=>omega
    case rel=>
     refine⟨i+1,sl+1,{A with n:=n2,mo:=Q},_,pre++[(b',Q)],by omega,z,congrArg (Value.int .i64) e4.o,?_,O ⟨by simp[a2.o.1],by have:=a2.o.2;rw[if_pos a9]at this;omega⟩,i2,O ⟨G.o.1,G.o.2.1,G.o.2.2.1,h5.o⟩,O ?_⟩
     .have:=a8.o;exact congrArg (Value.int .i64) (by first|omega|exact(IntWalk.wrap64_in _ (by omega)).trans (by omega))
     .rw[h6.o,mapE_mapE];congr 1;funext q;simp
   .go_wp2_with (first
     | ((with_reducible refine aa 13 (.load 46 _) ?_);refine wpList_load_mid z 46 (.tmp 12) z b2 (d6+i*6) z (dcCs d (.slice Z BN a0)) g8 e2.o f5 f7 info46d ?_)
     | ((with_reducible refine aa 6 (.alloc 46) ?_);refine wpList_alloc_blk f2 f1 f4 z z U b7 ?_;intro W4 k4 b4 s4;have K4:=O k4;have B4:=O b4;clear k4 b4)
     | ((with_reducible refine ah (.store 46 (.tmp 6) _) ?_);refine wpList_store_ch info46d z (.tmp 6) (.tmp 13) z U (dcCs d (.slice Z BN a0)) _ z z K4.o z (dcCs_one d z) ?_;intro W5 k5 c5;have a4:=O (V.o.below (c5.below (by rw[b8.o.2];exact Nat.le_refl _) B4.o));have a5:=O k5;have q0:W5.cell? ⟨U,0,none⟩=some (.int .i64 d.kind):=a5.o.cell 0;clear k5 c5 K4 B4 s4 V)
     |fail)
    go_roundg (S- (i+1));case measure=>omega
    case rel=> have J:=d9.o;rw[if_neg a9]at J;have a1:=a2.o;rw[if_neg a9,Nat.zero_add]at a1;exact⟨i+1,sl,A,C,pre,by omega,z,congrArg (Value.int .i64) e4.o,z,O a1,a4,G,O J⟩
  .obtain rfl:i=S:=by omega
   have j0:¬ (i:Int)< (i:Int):=by omega
   have hQ:=d5.o;rw[<-HN.o,List.drop_length,bods]at hQ;have HQ:=O (show R= .ok (pre,A.n) by rw[hQ];simp[mapE]);clear hQ;go_wp2_with fail;go_end0;rw[HQ.o];refine⟨V.o.k,z,A.mo,C,?_⟩;have hd:A={D with n:=A.n,mo:=A.mo}:=by obtain⟨K,h2,h3,-⟩:=G.o;cases A;simp only at K h2 h3;rw[K,h2,h3]
   rw[<-hd];exact V.o
theorem ins_wn{j:List MapEntry}(h:w.1[g]? =some (.map j.toArray n))(k:Int)(v:Value)(D:Instr.findNow (.int .i64) (I k) j 0=some none):
  ∃W,(Instr.mapUpdate 98 (.map (some g)) (I k) v).run Tryz.prog w= .ok () W/\W.1[g]? =some (.map (j++[(⟨I k,v,n⟩:MapEntry)]).toArray (n+1))/\ChM g w W:=by
 have A:MapKept.IsKey (.int .i64) (I k):=by simp[MapKept.IsKey]
 have C:Instr.findNow (.int .i64) (I k) j.toArray.toList 0=some none:=by simpa using D
 refine⟨{w with heap:=w.1.setIfInBounds g (.map (j++[(⟨I k,v,n⟩:MapEntry)]).toArray (n+1))},?_,(MapKept.heap_set h).1,chM_put h⟩;simp[Instr.mapUpdate,run_underlying under98,MapKept.run_getObj_map h,MapKept.run_checkKey under53 A,MapKept.run_findKey under53 C,MapKept.run_setObj_map _ h,Result.andThen]
theorem pwants_any(w:World):Calls Tryz.prog 36 #[] w fun e w'=>∃g,e= .returned (.map (some g))/\w.1.size<=g/\w'.1[g]? =some (.map wantEs.toArray 10)/\bL w w':=by
 obtain⟨g,j⟩:=eX (w.1.size);obtain⟨C,A⟩:=eX (w.alloc (.map #[] 0));have d2:(Instr.makeMap 98 none).run Tryz.prog w= .ok (.map (some g)) C:=by rw[<-j,<-A];kernel_rfl
 have a1:bL w C:=by rw[<-A];exact(Below.refl _ w).alloc rl _
 have D:C.1[g]? =some (.map ([]:List MapEntry).toArray 0):=by rw[<-A,<-j];exact World.alloc_heap_new _ _
 obtain⟨W1,d3,M,U⟩:=ins_wn D 2 (.agg #[I 1,I 0,.bool true,.bool false]) (by rfl);obtain⟨W2,c9,b8,N⟩:=ins_wn M 3 (.agg #[I 2,I 0,.bool false,.bool false]) (by rfl);obtain⟨W3,d6,b4,a7⟩:=ins_wn b8 6 (.agg #[I 3,I 0,.bool false,.bool false]) (by rfl);obtain⟨W4,d7,a0,b7⟩:=ins_wn b4 7 (.agg #[I 3,I 0,.bool false,.bool false]) (by rfl);obtain⟨W5,d1,b5,G⟩:=ins_wn a0 8 (.agg #[I 4,I 3,.bool false,.bool false]) (by rfl);obtain⟨W6,d5,a3,a2⟩:=ins_wn b5 9 (.agg #[I 4,I 0,.bool false,.bool false]) (by rfl);obtain⟨W7,d4,b6,V⟩:=ins_wn a3 10 (.agg #[I 4,I 0,.bool false,.bool false]) (by rfl);obtain⟨W8,c8,a8,E⟩:=ins_wn b6 11 (.agg #[I 5,I 0,.bool false,.bool false]) (by rfl)
 obtain⟨W9,d0,Q,b9⟩:=ins_wn a8 12 (.agg #[I 5,I 1,.bool false,.bool true]) (by rfl);obtain⟨J,d8,R,F⟩:=ins_wn Q 13 (.agg #[I 6,I 0,.bool false,.bool false]) (by rfl);have H:=U.below (Nat.le_of_eq j) a1;have a6:=N.below (Nat.le_of_eq j) H;have K:=a7.below (Nat.le_of_eq j) a6;have S:=b7.below (Nat.le_of_eq j) K;have a5:=G.below (Nat.le_of_eq j) S;have X:=a2.below (Nat.le_of_eq j) a5;have a9:=V.below (Nat.le_of_eq j) X;have a4:=E.below (Nat.le_of_eq j) a9;have Y:=b9.below (Nat.le_of_eq j) a4;have Z:=F.below (Nat.le_of_eq j) Y;have HF:Hid (w.1.size<=g/\J.1[g]? =some (.map wantEs.toArray 10)/\bL w J):=O ⟨Nat.le_of_eq j,R,Z⟩
 clear D M b8 b4 a0 b5 a3 b6 a8 Q R a1 H a6 K S a5 X a9 a4 Y Z U N a7 b7 G a2 V E b9 F j A;go_in;go_wp2;go_ret;exact⟨g,z,HF⟩
theorem tb_flaw(x y z:Int)(w:World):(Instr.typeAssert (.iface 95 (.agg #[I x,I y,I z])) 20 95 true).run Tryz.prog w= .ok (.tuple #[.agg #[I x,I y,I z],.bool true]) w:=by kernel_rfl
theorem eqg_nil(w:World):Sem.run Tryz.prog (eqGuard .eql 20 (.tmp 6) (.const .nilIface) .nilIface .nilIface) w= .ok () w:=by kernel_rfl
theorem eqb_nil(w:World):Sem.run Tryz.prog (binOp .eql 20 .nilIface .nilIface) w= .ok (.bool true) w:=by kernel_rfl
theorem eqg_flw(x y z:Int)(w:World):Sem.run Tryz.prog (eqGuard .eql 20 (.tmp 6) (.const .nilIface) (.iface 95 (.agg #[I x,I y,I z])) .nilIface) w= .ok () w:=by kernel_rfl
theorem eqb_flw(x y z:Int)(w:World):Sem.run Tryz.prog (binOp .eql 20 (.iface 95 (.agg #[I x,I y,I z])) .nilIface) w= .ok (.bool false) w:=by kernel_rfl
theorem info33:(Tryz.prog.info? 33).map (·.size)=some 1:=by kernel_rfl
structure CaughtF (w w':World) (z2 z3 z4:Nat) (f:Flw):Prop where
 l:Blk w' z2 30 zPgC
 p:Blk w' z3 32 [.int .i64 f.1.1,.int .i64 f.1.2]
 e:Blk w' z4 33 [.int .i64 f.2]
 os:w'.os=w.os
 tape:w'.tape=w.tape
 output:w'.output=w.output
 size:w.1.size<=w'.1.size
 block:∀c,c<w.1.size->c≠z2->c≠z3->c≠z4->w'.1[c]? =w.1[c]?
theorem fcatch_idle(J F E:Nat)(w:World):CallsD Tryz.prog 35 #[Pt J,Pt F,Pt E] .returning w fun e j w'=>e= .returned (.tuple #[])/\j= .returning/\bL w w':=by refine callsD_of_wpS Tryz.func35 z fun H cs D=>?_;simp only[Tryz.ntmps35,List.size_toArray,List.length_cons,List.length_nil,Nat.reduceAdd,Nat.reduceSub,Array.replicate_succ,Array.replicate_zero,List.push_toArray,List.append_toArray,List.nil_append,List.cons_append];apply wpS_seq;apply wpS_region;simp[wpOpsS,go_sem,recoverD,D,Exit.thenS];apply wpS_of_wp;have g:=O (Below.refl w.1.size w);have C:=eqg_nil;have G:=eqb_nil;go_wp2;simp[bodyPostS,results,Tryz.f35];have A:=g.o;clear g C G;exact⟨.returning,by cases H;simp_all,z,A⟩
theorem fcatch_panicking(C A j:Nat)(f:Flw)(b4:List PanicEntry)(w:World)(h2:Blk w C 30 l2)(hl:l2.length=13)(h3:Blk w A 32 [I p,I q])(h4:Blk w j 33 [I r])(b5:C≠A/\C≠j/\A≠j):
  CallsD Tryz.prog 35 #[Pt C,Pt A,Pt j] (.panicking ({flawN f with recovered:=false}::b4)) w fun e u' w'=>e= .returned (.tuple #[])/\u'= .panicking ({flawN f with recovered:=true}::b4)/\CaughtF w w' C A j f:=by
 obtain⟨⟨fl,fc⟩,g⟩:=f;refine callsD_of_wpS Tryz.func35 z fun c₀ cs hu=>?_;simp only[Tryz.ntmps35,List.size_toArray,List.length_cons,List.length_nil,Nat.reduceAdd,Nat.reduceSub,Array.replicate_succ,Array.replicate_zero,List.push_toArray,List.append_toArray,List.nil_append,List.cons_append];apply wpS_seq;apply wpS_region;simp[wpOpsS,go_sem,recoverD,hu,Exit.thenS];refine wpS_of_wp ?_;have ht:=tb_flaw fl fc g;have e1:=eqg_flw fl fc g;have e2:=eqb_flw fl fc g;simp only[flawN];have a1:=O h2;have a7:=O h3;have a6:=O h4;clear h2 h3 h4;go_wp2_with fail
 have Z:Hid (Blk (w.alloc (.cells #[I fl,I fc,I g] 95)) w.1.size 95 [I fl,I fc,I g]/\Below w.1.size w (w.alloc (.cells #[I fl,I fc,I g] 95))):=O ⟨Blk.new _ _ _,(Below.refl _ w).alloc (Nat.le_refl _) _⟩;generalize w.alloc (.cells #[I fl,I fc,I g] 95)=W0 at *;obtain⟨D,a0⟩:∃b,w.1.size=b:=⟨_,z⟩;have G:Hid (C<D/\A<D/\j<D/\w.1.size=D):=O (by rw[<-a0];exact⟨a1.o.lt,a7.o.lt,a6.o.lt,z⟩);rw[a0]at Z;rw[a0];have HB:Hid (Below D w W0):=O Z.o.2;have X:=O b5;have b7:=O hl;clear ht e1 e2 b5 hl a0;have b6:Tryz.prog.follows .mixedOrders=true:=by kernel_rfl
 obtain⟨H,Y⟩:∃H,W0.drew=H:=⟨_,z⟩;have V:Hid (Below D w H):=O (by rw[<-Y];exact HB.o.trans (Below.refl _ _).drew);have K:Hid (Blk H D 95 [I fl,I fc,I g]):=O (by rw[<-Y];exact Z.o.1.drew);have a5:Hid (Blk H C 30 l2/\Blk H A 32 [I p,I q]/\Blk H j 33 [I r]):=O ⟨a1.o.of (V.o.block _ G.o.1),a7.o.of (V.o.block _ G.o.2.1),a6.o.of (V.o.block _ G.o.2.2.1)⟩;clear Z HB a1 a7 a6;refine wp_region_x [] (fun W=>Blk W D 95 [I fl,I fc,I g]) b6 ?_;rw[Y];clear Y;refine tk 0 (some 12) K ?_;refine tk 1 (some 13) K ?_;refine wpX_takeD 2 (some 14) (v:=?_) z z (by kernel_rfl) (fun _ _ _ h=>h) K.o (Or.inl ⟨by rfl,?_⟩) ?_;rotate_left
 .intro W1 M;have f0:=M.cell 0;have f1:=M.cell 1;simp only[List.getElem?_cons_zero,List.getElem?_cons_succ]at f0 f1;clear M;go_simp;first|with_reducible rfl|rw[if_neg (by omega)]
 refine tk 3 (some 15) K ?_;refine nm ?_;refine wpX_takeD 4 (some 16) (v:=?_) z z (by kernel_rfl) (fun _ _ _ h=>h) K.o (Or.inl ⟨by rfl,?_⟩) ?_;rotate_left
 .intro W1 M;have f2:=M.cell 2;simp only[List.getElem?_cons_zero,List.getElem?_cons_succ]at f2;clear M;go_simp;first|with_reducible rfl|rw[if_neg (by omega)]
 refine nm ?_;refine oD 5 fun Q E=>?_;refine wp_store_ch info30 (.tmp 0) (.tmp 12) z C zPgC _ z z a5.o.1 b7.o ⟨z,by decide⟩ ?_;intro W5 k5 c5;have R:=O (And.intro k5 c5);clear k5 c5;have a8:=O (R.o.2.blk (by have:=G.o;omega) K.o);refine E _ _ (fun _=>a8.o) ?_;clear E Q;refine oD 6 fun Q E=>?_;refine wp_store_ch info32a (.tmp 1) (.tmp 14) z A [I fl,I fc] _ z z (R.o.2.blk (by have:=X.o;omega) a5.o.2.1) z (two_one fl fc) ?_;intro W6 k6 c6;have U:=O (And.intro k6 c6);clear k6 c6;have a9:=O (U.o.2.blk (by have:=G.o;omega) a8.o);refine E _ _ (fun _=>a9.o) ?_;clear E Q;refine oD 7 fun Q E=>?_
 refine wp_store_one info33 (.tmp 2) (.tmp 16) z j 0 33 (I g) _ z z z z (U.o.2.blk (by have:=X.o;omega) (R.o.2.blk (by have:=X.o;omega) a5.o.2.2)) (by simp) ?_;intro W7 k7 c7;have K7:=O (And.intro k7 c7);clear k7 c7;have b8:=O (K7.o.2.blk (by have:=G.o;omega) a9.o);refine E _ _ (fun _=>b8.o) ?_;clear E Q;try simp only[Act.put]
 refine dn ?_;have HF:Hid (CaughtF w W7 C A j ((fl,fc),g)):=O (by have hn:=X.o;have S:=R.o.2.chM;have J:=U.o.2.chM;have F:=K7.o.2.chM;have N:=V.o;exact⟨F.blk (by omega) (J.blk (by omega) R.o.1),F.blk (by omega) U.o.1,K7.o.1,F.os.trans (J.os.trans (S.os.trans N.os)),F.tape.trans (J.tape.trans (S.tape.trans N.tape)),F.output.trans (J.output.trans (S.output.trans N.output)),by rw[F.size,J.size,S.size];exact N.size,fun c hc a2 a3 a4=> (F.block c a4).trans ((J.block c a3).trans ((S.block c a2).trans (N.block c (by have:=G.o.2.2.2;omega))))⟩)
 go_wp2_with fail;simp[bodyPostS,results,Tryz.f35];exact HF.o
theorem fres{tmps:Array Value}(F:tmps.getD 2 undef=Pt j)(K:tmps.getD 3 undef=Pt g)(Q:tmps.getD 4 undef=Pt n0)(b2:Blk W j 30 l2)(A:l2.length=13)(b3:Blk W g 32 [I p,I q])(N:Blk W n0 33 [I r]):
  (results Tryz.f14 tmps).run Tryz.prog W= .ok (.tuple #[.agg l2.toArray,.agg #[I p,I q],I r]) W:=by
 obtain⟨S,H,E⟩:=under30;obtain⟨D,U,V⟩:=under32a;have R:tmps[2]?.getD undef=Pt j:=by rw[<-F];simp
 have G:tmps[3]?.getD undef=Pt g:=by rw[<-K];simp
 have M:tmps[4]?.getD undef=Pt n0:=by rw[<-Q];simp
 have J:=run_loadVar_mid (P:=Tryz.prog) W j 0 30 l2 S b2.whole H E (by rw[A];exact info30);have w:=run_loadVar_mid (P:=Tryz.prog) W g 0 32 _ D b3.whole U V info32a;have c4:=N.cell 0;simp only[List.getElem?_cons_zero]at c4;have C:(loadVar 33 ⟨n0,0,none⟩).run Tryz.prog W= .ok (I r) W:=by simp[go_sem,c4]
 simp[results,R,G,M,asAddr,J,w,C]
structure F3 (w W:World) (z2 z3 z4:Nat) (ps:List Value) (p q r:Int):Prop where
 l:Blk W z2 30 ps
 n:ps.length=13
 p:Blk W z3 32 [.int .i64 p,.int .i64 q]
 e:Blk W z4 33 [.int .i64 r]
 b:Below w.1.size w W
 lt:w.1.size<=z2/\w.1.size<=z3/\w.1.size<=z4/\z2≠z3/\z2≠z4/\z3≠z4
section
variable {w W W':World} {z2 z3 z4:Nat} {ps:List Value} {p q r:Int}
theorem F3.below(H:F3 w W z2 z3 z4 ps p q r)(g:bL W W'):F3 w W' z2 z3 z4 ps p q r:=⟨H.l.below g,H.n,H.p.below g,H.e.below g,H.b.trans (g.mono H.b.size),H.lt⟩
theorem F3.kpB{B F:Nat}(H:F3 w W z2 z3 z4 ps p q r)(j:KpB B F g W W')(A:z2<B/\z3<B/\z4<B)(D:z2<F/\z3<F/\z4<F)(E:z2<g/\z3<g/\z4<g)(G:w.1.size<=B):F3 w W' z2 z3 z4 ps p q r:=
 ⟨H.l.of (j.block _ A.1 (by omega) (by omega)),H.n,H.p.of (j.block _ A.2.1 (by omega) (by omega)),H.e.of (j.block _ A.2.2 (by omega) (by omega)),⟨j.os.trans H.b.os,j.tape.trans H.b.tape,j.output.trans H.b.output,Nat.le_trans H.b.size j.size,fun c C=> (j.block c (by omega) (by have:=H.lt;omega) (by have:=H.lt;omega)).trans (H.b.block c C)⟩,H.lt⟩
theorem F3.ch(H:F3 w W z2 z3 z4 ps p q r)(g:Ch c W W')(j:z2≠c/\z3≠c/\z4≠c)(A:w.1.size<=c):F3 w W' z2 z3 z4 ps p q r:=⟨g.blk j.1 H.l,H.n,g.blk j.2.1 H.p,g.blk j.2.2 H.e,g.below A H.b,H.lt⟩
theorem pgs_len{P:Pg}(k:Nat)(g:9<=k):((lsP P).getD k []).length<=n:=by rw[List.getD_eq_getElem?_getD,List.getElem?_eq_none (by simp[lsP];omega)];exact Nat.zero_le _
def dfr35(z2 z3 z4:Nat):List Deferred:=[{target:= .fn (.func 35) #[.pointer (some ⟨z2,0,none⟩),.pointer (some ⟨z3,0,none⟩),.pointer (some ⟨z4,0,none⟩)],args:= #[]}]
theorem find_gone{f:Flw}(H:F3 w W z2 z3 z4 ps p q r)(E:A.tmps.getD 2 undef=Pt z2)(D:A.tmps.getD 3 undef=Pt z3)(G:A.tmps.getD 4 undef=Pt z4)(hd:A.defers=dfr35 z2 z3 z4):
  bodyPostD Tryz.prog Tryz.f14 (FOk w (zPg,f.1,f.2)) (.panic [flawN f]) A W:=by
 show Leaves Tryz.prog Tryz.f14 A.tmps (FOk w (zPg,f.1,f.2)) A.defers (.panicking [flawN f]) W;rw[hd];apply leaves_cons (f:=35) (args:= #[Pt z2,Pt z3,Pt z4]) (by simp) (by simp[go_sem]);apply (fcatch_panicking z2 z3 z4 f [] W H.l H.n H.p H.e ⟨H.lt.2.2.2.1,H.lt.2.2.2.2.1,H.lt.2.2.2.2.2⟩).mono;rintro e J w' ⟨rfl,rfl,g⟩;have C:=fres E D G g.l z g.p g.e
 have F:FOk w (zPg,f.1,f.2) (.returned (.tuple #[.agg zPgC.toArray,.agg #[I f.1.1,I f.1.2],I f.2])) w':=⟨⟨zPgC,z,pgRL_zero _ _⟩,⟨g.os.trans H.b.os,g.tape.trans H.b.tape,g.output.trans H.b.output,Nat.le_trans H.b.size g.size,fun c j=> (g.block c (Nat.lt_of_lt_of_le j H.b.size) (by have:=H.lt;omega) (by have:=H.lt;omega) (by have:=H.lt;omega)).trans (H.b.block c j)⟩⟩;simp only[settle];exact⟨_,C,F⟩
theorem find_done{P:Pg}(H:F3 w W z2 z3 z4 ps p q r)(K:PgRL (w.1.size<=·) W P ps)(F:A.tmps.getD 2 undef=Pt z2)(E:A.tmps.getD 3 undef=Pt z3)(J:A.tmps.getD 4 undef=Pt z4)(hd:A.defers=dfr35 z2 z3 z4):
  bodyPostD Tryz.prog Tryz.f14 (FOk w (P,(p,q),r)) .ret A W:=by
 show Leaves Tryz.prog Tryz.f14 A.tmps (FOk w (P,(p,q),r)) A.defers .returning W;rw[hd];apply leaves_cons (f:=35) (args:= #[Pt z2,Pt z3,Pt z4]) (by simp) (by simp[go_sem]);apply (fcatch_idle z2 z3 z4 W).mono;rintro e M w' ⟨rfl,rfl,j⟩;have g:=H.below j;have D:=fres F E J g.l g.n g.p g.e;have G:FOk w (P,(p,q),r) (.returned (.tuple #[.agg ps.toArray,.agg #[I p,I q],I r])) w':=⟨⟨ps,z,K.keep fun b o u _ C=>below_cell j b o u C⟩,g.b⟩;simp only[settle];exact⟨_,D,G⟩
theorem find_early{P:Pg}(H:F3 w W z2 z3 z4 ps p q r)(F:PgRL (w.1.size<=·) W P ps)(C:A.tmps.getD 2 undef=Pt z2)(j:A.tmps.getD 3 undef=Pt z3)(E:A.tmps.getD 4 undef=Pt z4)(hd:A.defers=[]):
  bodyPostD Tryz.prog Tryz.f14 (FOk w (P,(p,q),r)) .ret A W:=by
 show Leaves Tryz.prog Tryz.f14 A.tmps (FOk w (P,(p,q),r)) A.defers .returning W;rw[hd];have g:=fres C j E H.l H.n H.p H.e;have D:FOk w (P,(p,q),r) (.returned (.tuple #[.agg ps.toArray,.agg #[I p,I q],I r])) W:=⟨⟨ps,z,F⟩,H.b⟩;exact⟨_,g,D⟩
end
theorem ro_of_flat{g:Type}{E:El g}{ty:TypeId}{sz B:Nat}{l:List g}(f:g->List Value)(F:E.sz=sz)(h:Grow (elV ty sz) B w v (l.map f))(M:∀x,x∈l->E.L (B<=·) w (f x) x):Ro E (B<=·) w v l:=by obtain⟨a,cap,D,C,J⟩:=Ro.of h;refine⟨a,cap,by simpa using D,by simpa using C,fun j x A=>?_⟩;obtain⟨b,N,cs,Q,G,H,K⟩:=J j (f x) (by simp[A]);refine⟨b,N,cs,Q,G,by rw[F];exact H,?_⟩;rw[K.1];exact M x (List.mem_of_getElem? A)
theorem pgL_of{B F h:Nat}{P:Pg}{vs:List Value}{D:PF}{C:List Value}{G:List Th}(H:Bo w0 w B F g h n0 P vs D C G W)(Q:vs.getD 3 nilV= .slice (some ⟨n0,0,none⟩) n5 n6)(A:n5=G.length)(N:Roomy n5 n6):PgL (B<=·) W {P with threads:=G} (vs.getD 0 nilV) (vs.getD 1 nilV) (vs.getD 2 nilV) (vs.getD 3 nilV) (vs.getD 4 nilV) (vs.getD 5 nilV) (vs.getD 6 nilV) (vs.getD 7 nilV) (vs.getD 8 nilV):=by
 subst A;refine⟨ro_of_flat (E:=elI 2) cI z (H.o 0 (by decide) (by decide)).1 fun x _=>z,ro_of_flat (E:=elI 3) cI z (H.o 1 (by decide) (by decide)).1 fun x _=>z,ro_of_flat (E:=elI 3) cI z (H.o 2 (by decide) (by decide)).1 fun x _=>z,?_,ro_of_flat (E:=elS) cS z (H.o 4 (by decide) (by decide)).1 fun x _=>z,ro_of_flat (E:=elS) cS z (H.o 5 (by decide) (by decide)).1 fun x _=>z,ro_of_flat (E:=elS) cS z (H.o 6 (by decide) (by decide)).1 fun x _=>z,ro_of_flat (E:=elS) cS z (H.o 7 (by decide) (by decide)).1 fun x _=>z,ro_of_flat (E:=elS) cS z (H.o 8 (by decide) (by decide)).1 fun x _=>z⟩;refine⟨some ⟨n0,0,none⟩,n6,Q,N,fun j x R=>?_⟩;obtain⟨cs,M,J⟩:=H.a j x R
 refine⟨n0,0,cs,z,H.lt.1.2.2.2,fun t u K=>?_,elTh.weak (fun c J=>J.1.1) M⟩;have S:cs.length=3:=(elTh.cells M).1;have A:t<3:=by have:=(List.getElem?_eq_some_iff.1 K).1;omega
 refine World.cellF_mk H.t ?_;show W.cell? ⟨n0,0+j*3+t,none⟩=some u;rw[H.t.cell,Nat.zero_add,J t A];exact K
structure Dk (l:List De) (i:Nat) (P:Pg) (L:List Nm) (ce:Int):Prop where
 ln:(P.vars.length<=i/\P.arrays.length<=i/\P.chans.length<=i/\P.threads.length<=i)/\(P.nv.length<=i/\P.na.length<=i/\P.nm.length<=i/\P.nc.length<=i/\P.nh.length<=i)/\P.mutexes<=i/\P.conds<=i
 ce:0<=ce/\ce<=256
 th:∀t∈P.threads,t.body=[]/\t.locals=0
 c6:P.threads.length+cnt6 (l.drop i)=cnt6 l
 mn:∀x∈L,x.kind=6->0<P.threads.length
 i:i<=64
 ms:P.main=0/\P.stmts=0
theorem Dk.lnp{l:List De}{P:Pg}{L:List Nm}{ce:Int}(h:Dk l i P L ce):LnP P 1000:=by obtain⟨⟨⟨a,b,c,d⟩,⟨e,f,g,j,k⟩,m,n⟩,-,-,-,-,w,-⟩:=h;refine⟨fun q=>?_,by omega,by omega⟩;rcases q with _|_|_|_|_|_|_|_|_|q;all_goals first| (simp only[lsP,List.getD_cons_zero,List.getD_cons_succ,List.length_map];omega)|exact pgs_len _ (by omega)
theorem Dk.step{l:List De}{P:Pg}{L:List Nm}{ce:Int}{d:De}(h:Dk l i P L ce)(_U:i<l.length)(hd:l.drop i=d::l.drop (i+1))(A:1<=d.kind/\d.kind<=6)(w:dcl P L ce i d= .ok (G,N,p0)):Dk l (i+1) G N p0:=by
 obtain⟨⟨⟨a,b,c,e⟩,⟨f,g,j,k,m⟩,n,p⟩,M,H,D,K,V,J⟩:=h;rw[hd,cnt6]at D;cases F:lkN L d.name with
 |some x=>rw[dcl_some F]at w;cases w
 |none=>
  have S:d.kind=1∨d.kind=2∨d.kind=3∨d.kind=4∨d.kind=5∨d.kind=6:=by omega
  rcases S with A|A|A|A|A|A
  .rw[dcl_k1 F A]at w;split at w
   .cases w
   cases w;rw[A]at D;refine⟨by simp;omega,M,H,by simpa using D,fun x C=>?_,by omega,J⟩;simp only[List.mem_append,List.mem_singleton]at C;rcases C with C|rfl
   .exact K x C
   .intro E;simp[A]at E
  .by_cases Q:d.num<1∨256<d.num∨256<ce+d.num
   .rw[dcl_k2e F A Q]at w;cases w
   rw[dcl_k2 F A Q]at w;split at w
   .cases w
   cases w;rw[A]at D;refine⟨by simp;omega,by omega,H,by simpa using D,fun x C=>?_,by omega,J⟩;simp only[List.mem_append,List.mem_singleton]at C;rcases C with C|rfl
   .exact K x C
   .intro E;simp[A]at E
  .rw[dcl_k3 F A]at w;split at w
   .cases w
   cases w;rw[A]at D;refine⟨by simp;omega,M,H,by simpa using D,fun x C=>?_,by omega,J⟩;simp only[List.mem_append,List.mem_singleton]at C;rcases C with C|rfl
   .exact K x C
   .intro E;simp[A]at E
  .rw[dcl_k4 F A]at w;split at w
   .cases w
   cases w;rw[A]at D;refine⟨by simp;omega,M,H,by simpa using D,fun x C=>?_,by omega,J⟩;simp only[List.mem_append,List.mem_singleton]at C;rcases C with C|rfl
   .exact K x C
   .intro E;simp[A]at E
  .by_cases Q:d.num<1∨16<d.num
   .rw[dcl_k5e F A Q]at w;cases w
   rw[dcl_k5 F A Q]at w;split at w
   .cases w
   cases w;rw[A]at D;refine⟨by simp;omega,M,H,by simpa using D,fun x C=>?_,by omega,J⟩;simp only[List.mem_append,List.mem_singleton]at C;rcases C with C|rfl
   .exact K x C
   .intro E;simp[A]at E
  .rw[dcl_k6 F A]at w;split at w
   .cases w
   cases w;rw[A]at D;refine⟨by simp;omega,M,fun t R=>?_,by simp at D ⊢;omega,fun x _ _=>by simp,by omega,J⟩;simp only[List.mem_append,List.mem_singleton]at R;rcases R with R|rfl
   .exact H t R
   .exact⟨z,z⟩
theorem zero33:∃i z,Tryz.prog.info? 33=some i/\i.zero=some z/\z.cells=([I 0]:List Value).toArray:=infoZ (by kernel_rfl)
theorem deR_kind{nm:ByteArray->Bool}{d:De}(h:deR nm d=true):(1<=d.kind/\d.kind<=6)/\(d.kind=1->-2147483648<=d.num/\d.num<=2147483647)/\St.sms d.body:=by
 unfold deR at h;simp only[Bool.and_eq_true]at h;obtain⟨-,g,j⟩:=h;have A:d.body.length=0->St.sms d.body:=fun e=>by rw[List.length_eq_zero_iff.1 e];unfold St.sms;trivial
 by_cases w:d.kind=1
 .rw[if_pos w]at j;simp at g j;exact⟨by omega,fun _=>by omega,A (by rcases g with g|g;omega;simp[g])⟩
 rw[if_neg w]at j;by_cases D:d.kind=2∨d.kind=5
 .simp at g;exact⟨by omega,fun e=>absurd e w,A (by rcases g with g|g;omega;simp[g])⟩
 rw[if_neg D]at j;by_cases k3:d.kind=3∨d.kind=4
 .simp at g;exact⟨by omega,fun e=>absurd e w,A (by rcases g with g|g;omega;simp[g])⟩
 rw[if_neg k3]at j;by_cases C:d.kind=6
 .rw[if_pos C,Bool.and_eq_true]at j;exact⟨by omega,fun e=>absurd e w,stsR_sm2 d.body j.2⟩
 .rw[if_neg C]at j;cases j
theorem pcC_one(P:Pg){P0:Pg}{B:Nat}{vs:List Value}(h:Gs B w vs (lsP P0)):(pcC P vs).length=13/\∀v∈pcC P vs,v.oneCell'=true:=by
 have j:∀k,(vs.getD k nilV).oneCell'=true:=fun k=>by
  by_cases A:k<9
  .obtain⟨a,cap,C,-⟩:=(h.gr k A).form;rw[C];rfl
  .rw[List.getD_eq_getElem?_getD,List.getElem?_eq_none (by rw[h.len.1];omega)];rfl
 refine⟨z,fun v g=>?_⟩;simp only[pcC,List.mem_cons,List.not_mem_nil,or_false]at g;rcases g with rfl|rfl|rfl|rfl|rfl|rfl|rfl|rfl|rfl|rfl|rfl|rfl|rfl;all_goals first|rfl|exact j _
theorem dcls_cons(P:Pg)(L:List Nm)(ce:Int)(i:Nat)(d:De)(r:List De):dcls P L ce i (d::r)=(match dcl P L ce i d with| .error e=> .error e| .ok q=>dcls q.1 q.2.1 q.2.2 (i+1) r):=by
 rw[dcls];cases dcl P L ce i d with
 |error e=>rfl
 |ok q=>rfl
theorem find_tail{nmf:ByteArray->Bool}{l:List De}{cap F h B:Nat}{P:Pg}{vs:List Value}{L:List Nm}{ce:Int}{R:Pg× (Int×Int)×Int}{f7 d9 e8 f4 e7:Value}(HN:Hid (l.length=n7))(HZ:Hid (w.1.size=n0/\n0+1=n5/\n5+1=n6))(f5:Hid (F<B/\g<B/\h<B/\n6<g/\g<h/\h<F/\w.1.size<=g))
  (H:Hid (F3 w W n0 n5 n6 zPgC 0 0 0/\Fi W F g h (pcC P vs) ⟨L,ce,0,0,0⟩/\Gs B W vs (lsP P)/\B<=W.1.size))(U:Hid (Dk l n7 P L ce))(e4:Hid (desR nmf l=true))(f6:Hid (DesL (fun _=>True) w a l))(d6:Roomy n7 cap)
  (HR:Hid (R=(match lkN L wMain with|none=> (zPg,(0,0),133)|some x=>if x.kind≠6 then (zPg,(0,0),133) else match bods L 0 l with| .error e=> (zPg,e.1,e.2)| .ok (bs,n)=> ({P with main:=x.slot,threads:=putTh P.threads bs,stmts:=n},(0,0),0)))):
  Code.wp Tryz.prog (dropS 5 (Tryz.f14.body.getD .skip)) (bodyPostD Tryz.prog Tryz.f14 (FOk w R)) ⟨#[.slice a n7 cap,v0,Pt n0,Pt n5,Pt n6,v1,Pt F,v2,v3,v4,v5,v6,v7,v8,v9,u0,u1,u2,u3,u4,u5,u6,u7,u8,u9,x0,x1,x2,x3,x4,x5,x6,x7,x8,x9,y0,y1,y2,y3,y4,y5,y6,y7,y8,y9,vA,vB,vC,vD,vE,vF,vG,vH,vI,vJ,vK,vL,vM,vN,vP,vQ,vR,vS,vT,vU,vV,vW,vX,vY,vZ,f7,d9,e8,f4,e7],dfr35 n0 n5 n6⟩ W:=by
 obtain⟨i4,g1,f8,d7,f2⟩:=zero104i;obtain⟨e0,f3,d8⟩:=under30;obtain⟨r,hr⟩:∃r,lkN L wMain=r:=⟨_,z⟩;have A:=HR.o;rw[hr]at A;have M:=O A;have b8:=O hr;have e1:=O d6;clear A hr HR d6;have b6:=look_nm H.o.2.1.m ⟨#[109,97,105,110]⟩;rw[lkV_eq,show lkN L ⟨#[109,97,105,110]⟩=r from b8.o]at b6;have c13:=H.o.2.1.c13;obtain⟨bM,a8⟩:∃b,W.1.size=b:=⟨_,z⟩;conv in (dropS _ _)=>whnf
 refine wk fun KK b9=>?_;go_wp2_with (first
  | ((with_reducible refine aa 9 (.alloc 104) ?_);refine wpList_alloc_blk f8 d7 f2 z z bM a8 ?_;intro W1 k1 b1 e6;have K1:=O k1;have B1:=O b1;clear k1 b1)
  | ((with_reducible refine ah (.store 104 _ _) ?_);refine wpList_store_ch info104 z (.tmp 9) (.tmp 41) z bM [I (lkK r),I (lkS r)] _ z z K1.o z ⟨z,by simp[Value.oneCell']⟩ ?_;intro W2 k2 c2;have K2:=O k2;have V:=O (c2.below (by rw[a8];exact Nat.le_refl _) B1.o);clear k2 c2 K1 B1 e6)
  |fail)
 refine b9.o _ _ ?_;clear b9 KK b6 c13 a8;have D:=O (And.intro (H.o.1.below V.o) (And.intro (H.o.2.1.up V.o) (And.intro (H.o.2.2.1.below V.o) (Nat.le_trans H.o.2.2.2 V.o.size))));clear H V;have m0:W2.cell? ⟨bM,0,none⟩=some (.int .i64 (lkK r)):=K2.o.cell 0;have m1:W2.cell? ⟨bM,1,none⟩=some (.int .i64 (lkS r)):=K2.o.cell 1;rcases r with _|⟨xt,xk,xs⟩
 .go_wp2_with fail;rw[M.o];exact find_gone (f:=((0,0),133)) D.o.1 z z z z
 simp only[lkK,lkS]at m0 m1;by_cases hk:xk=6;rotate_left
 .have g2:¬ (xk:Int)=6:=by omega
  have A:=M.o;simp only[ne_eq,hk,not_false_iff,if_true]at A;have a1:=O A;clear A M;go_wp2_with fail;rw[a1.o];exact find_gone (f:=((0,0),133)) D.o.1 z z z z
 subst hk;have A:=M.o;simp only[ne_eq,not_true,if_false]at A;have a1:=O A;have e2:Hid (∀n:Nat,(pcC {P with main:=xs,stmts:=n} vs).length=13/\∀v∈pcC {P with main:=xs,stmts:=n} vs,v.oneCell'=true):=O fun n=>pcC_one _ D.o.2.2.1;have h0:0<P.threads.length:=U.o.mn _ (List.mem_of_find?_eq_some b8.o) z;have f0:=O h0;clear A M h0;go_wp2_with (first
  | ((with_reducible refine ah (.store 3 (.tmp 58) _) ?_);refine wpList_store_one info3 z (.tmp 58) (.tmp 55) z F 6 101 (I xs) _ z z z z D.o.2.1.f (by simp[pcC,pfT]) ?_;intro K k3 c3;have J:=O (And.intro k3 c3);clear k3 c3)
  |fail)
 have C:=O f5.o;have G:=O HZ.o;have d3:=D.o.2.1.fg;have b4:=D.o.2.1.fh;have d5:Hid (Fi K F g h (pcC {P with main:=xs} vs) ⟨L,ce,0,0,0⟩):=O (D.o.2.1.pc z J.o.1 (J.o.2.hpc (fun e=>d3 e.symm)) (J.o.2.hpc (fun e=>b4 e.symm)));have a0:Hid (Gs B K vs (lsP {P with main:=xs})):=O (D.o.2.2.1.ch J.o.2 (.inl C.o.1));have H3:=O (D.o.1.ch J.o.2 (by have:=C.o;have:=G.o;omega) (by have:=C.o;omega));have g3:Hid (B<=K.1.size):=O (by rw[J.o.2.size];exact D.o.2.2.2);clear D J m0 m1 K2 d3 b4;obtain⟨gt,g4,C0,a4,b5,d4,a3,a6,d0⟩:=grow_blk (a0.o.gr 3 (by decide)) (by simpa [lsP]using f0.o) (by decide);have d2:((lsP {P with main:=xs}).getD 3 []).length=P.threads.length:=by simp[lsP]
 rw[d2]at a4 a3 a6;have a5:=O a4;have f1:=O a3;have S:Hid (Bo w K B F g h gt {P with main:=xs} vs ⟨L,ce,0,0,0⟩ C0 P.threads K):=O ⟨KpB.refl _ _ _ _,d5.o,d4,fun j x hj=>by
  obtain⟨cs,h1,h2⟩:=d0 j (cT x) (by simp[lsP,hj]);have Z:=(U.o.th x (List.mem_of_getElem? hj)).1;refine⟨cs,⟨none,0,?_,?_,?_⟩,h2⟩
  .rw[h1.1,Z];rfl
  .rw[Z];exact⟨Nat.le_refl _,by decide⟩
  .rw[Z];unfold StsL;trivial,a6,fun k e3 e9=>⟨a0.o.gr k e3,a0.o.ap 3 k gt (fun e=>e9 e.symm) (by rw[a5.o];rfl)⟩,H3.o.b,⟨C.o.1,C.o.2.1,C.o.2.2.1,b5⟩,by have:=C.o;omega,by have:=C.o;omega⟩
 clear a4 a3 b5 d4 a6 d0 d2 a0 d5;have b7:l.drop n7=[]:=by rw[<-HN.o];exact List.drop_length
 have h6:=U.o.c6;rw[b7]at h6;simp only[cnt6,Nat.add_zero]at h6;have a2:=pbod_any l a cap (by rw[HN.o];exact e1.o) f6.o S.o a5.o z ⟨z,Nat.zero_le _⟩ (fun d hd=> (deR_kind (List.all_eq_true.1 e4.o d hd)).2.2) ⟨h6,by have h1:=U.o.ln.1.2.2.2;have h2:=U.o.i;omega⟩;rw[HN.o]at a2;refine a2.mono ?_;clear a2 b7 h6;rintro e W4 ⟨a9,hm⟩;have H4:=O (H3.o.kpB a9 (by have:=C.o;have:=G.o;omega) (by have:=C.o;have:=G.o;omega) (by have:=C.o;have:=G.o;omega) (by have:=C.o;omega));clear a9 H3 S;obtain⟨rb,d1⟩:∃r,bods L 0 l=r:=⟨_,z⟩;have A:=a1.o;simp only at hm;rw[d1]at hm A;have c9:=O A;clear A a1 d1;rcases rb with er|⟨bs,n⟩
 .obtain rfl:=hm;have A:=c9.o;simp only at A;rw[A];exact find_gone H4.o z z z z
 obtain⟨rfl,mo,C4,a7⟩:=hm;have S:=O a7;have c16:=a7.f.c16;clear a7;go_wp2_with (first
  | ((with_reducible refine ah (.store 3 (.tmp 69) _) ?_);refine wpList_store_one info3 z (.tmp 69) (.tmp 66) z F 7 101 (I n) _ z z z z S.o.f.f (by simp[pcC,pfT]) ?_;intro W5 k5 c5;have K5:=O (And.intro k5 c5);have e5:Hid (W5.rangeAt F 0 (pcC {P with main:=xs,stmts:=n} vs)):=O (Blk.range (pre:=[]) (mid:=pcC {P with main:=xs,stmts:=n} vs) (post:=pfT g h ⟨L,ce,n,0,mo⟩) k5 z);have Q:=O (H4.o.ch c5 (by have:=C.o;have:=G.o;omega) (by have:=C.o;omega));clear k5 c5)
  | ((with_reducible refine aa 73 (.load 30 _) ?_);refine wpList_load_mid z 30 (.tmp 72) z F 0 z (pcC {P with main:=xs,stmts:=n} vs) e0 e5.o f3 d8 info30 ?_)
  | ((with_reducible refine ah (.store 30 (.tmp 2) _) ?_);refine wpList_store_ch info30 z (.tmp 2) (.tmp 73) z n0 (pcC {P with main:=xs,stmts:=n} vs) _ z z Q.o.l z (e2.o n) ?_;intro W6 k6 c6;have Y:=O (And.intro k6 c6);clear k6 c6)
  | ((with_reducible refine ah (.store 32 (.tmp 3) _) ?_);refine wpList_store_ch info32a z (.tmp 3) (.tmp 74) z n5 [I 0,I 0] _ z z (Y.o.2.blk (by have:=G.o;omega) Q.o.p) z (two_one 0 0) ?_;intro W7 k7 c7;have N:=O (And.intro k7 c7);clear k7 c7)
  | ((with_reducible refine ah (.store 33 (.tmp 4) _) ?_);refine wpList_store_one info33 z (.tmp 4) (.const (I 0)) z n6 0 33 (I 0) _ z z z z (N.o.2.blk (by have:=G.o;omega) (Y.o.2.blk (by have:=G.o;omega) Q.o.e)) (by simp) ?_;intro W8 k8 c8;have X:=O (And.intro k8 c8);clear k8 c8)
  |fail)
 have A:=c9.o;rw[A];have hz:=G.o;have hl:=C.o;have H8:F3 w W8 n0 n5 n6 (pcC {P with main:=xs,stmts:=n} vs) 0 0 0:=⟨X.o.2.blk (by omega) (N.o.2.blk (by omega) Y.o.1),z,X.o.2.blk (by omega) N.o.1,X.o.1,X.o.2.below (by omega) (N.o.2.below (by omega) (Y.o.2.below (by omega) Q.o.b)),Q.o.lt⟩;have hp:=pgL_of S.o a5.o (by rw[putTh_len]) f1.o;have E:=(hp.keep (w':=W8) fun b o u Z hu=>by have f9:B<=b:=Z;rw[X.o.2.cellF (by omega),N.o.2.cellF (by omega),Y.o.2.cellF (by omega),K5.o.2.cellF (by omega)];exact hu).weak (ok':=fun c=>w.1.size<=c) fun c hc=>by have g5:B<=c:=hc;omega
 exact find_done H8 ⟨_,_,_,_,_,_,_,_,_,z,⟨E.vars,E.arrays,E.chans,E.threads,E.nv,E.na,E.nm,E.nc,E.nh⟩⟩ z z z z
theorem pfind_all{nmf:ByteArray->Bool}(l:List De)(a:Option Addr)(cap:Nat)(w:World)(d4:Roomy l.length cap)(d9:DesL (fun _=>True) w a l)(b5:∀W,Below w.1.size w W->Calls Tryz.prog 34 #[.slice a l.length cap] W fun e w'=>e= .returned (I (if desR nmf l=true then 0 else 2))/\Below W.1.size W w'):
  Calls Tryz.prog 14 #[.slice a l.length cap] w (FOk w (if desR nmf l=true then findR l else (zPg,(0,0),2))):=by
 have j7:=makeFn;obtain⟨k8,l3,i5,i1,i3⟩:=zero30;obtain⟨k0,j2,f5,g1,g8⟩:=zero32;obtain⟨j6,l2,g3,h6,g7⟩:=zero33;obtain⟨i9,j4,f7,g4,g6⟩:=zero46d;obtain⟨h0,e5,e3⟩:=under46d;obtain⟨j1,j9,j0⟩:=under30;obtain⟨i4,y4,l4,a7,j8⟩:=zero104i;obtain⟨E,hN⟩:∃E,l.length=E:=⟨_,rfl⟩;rw[hN]at d4 ⊢;simp only[hN]at b5;have Q:=O hN;have b9:=O fun _:True=>d4;have f3:=O d9;have d7:=O b5;obtain⟨R,j⟩:∃R,(if desR nmf l=true then findR l else (zPg,(0,0),2))=R:=⟨_,rfl⟩;rw[j];have HR:=O j;clear hN d4 d9 b5 j;obtain⟨C,h2⟩:∃z,w.1.size=z:=⟨_,rfl⟩;go_enter_defers Tryz.func14,Tryz.ntmps14;refine wk fun M A=>?_;go_wp2_with (first
  | ((with_reducible refine aa 2 (.alloc 30) ?_);refine wpList_alloc_blk i5 i1 i3 rfl rfl C h2 ?_;intro W1 k1 b1 e7;have K1:=O k1;have B1:=O b1;clear k1 b1)
  | ((with_reducible refine aa 3 (.alloc 32) ?_);refine wpList_alloc_blk f5 g1 g8 rfl rfl (C+1) e7 ?_;intro W2 k2 b2 s2;have K2:=O k2;have B2:=O b2;clear k2 b2)
  | ((with_reducible refine aa 4 (.alloc 33) ?_);refine wpList_alloc_blk g3 h6 g7 rfl rfl (C+1+1) s2 ?_;intro W3 k3 b3 s3;have K3:=O k3;have B3:=O b3;clear k3 b3)
  |fail)
 refine A.o _ _ ?_;clear A M;obtain⟨X,d1⟩:∃z,C+1=z:=⟨_,rfl⟩;rw[d1]at K2 K3 s2 s3 ⊢;obtain⟨U,a7⟩:∃z,X+1=z:=⟨_,rfl⟩;rw[a7]at K3 s3 ⊢;have G:Hid (w.1.size=C/\C+1=X/\X+1=U):=O ⟨h2,d1,a7⟩;have b6:=B1.o.trans (B2.o.mono B1.o.size);have e9:=b6.trans (B3.o.mono b6.size);have H3:Hid (F3 w W3 C X U zPgC 0 0 0):=O ⟨(K1.o.below B2.o).below B3.o,rfl,K2.o.below B3.o,K3.o,e9,by omega⟩;clear K1 K2 K3 B1 B2 B3 e7 s2 s3 b6 e9 h2 d1 a7;refine wk fun M A=>?_;go_wp2_with fail;refine(d7.o W3 H3.o.b).mono ?_;rintro e H ⟨rfl,hb⟩;have N:=O (H3.o.below hb);clear hb H3 d7;by_cases a0:desR nmf l=true;rotate_left
 .have j:=HR.o;rw[if_neg a0]at j;have a5:=O j.symm;rw[if_neg a0];clear HR j;go_wp2_with (first
   | ((with_reducible refine ah (.store 30 (.tmp 2) _) ?_);refine wpList_store_ch info30 rfl (.tmp 2) (.tmp 15) rfl C zPgC _ rfl rfl N.o.l rfl ⟨rfl,by decide⟩ ?_;intro K k5 c5;have K5:=O (And.intro k5 c5);clear k5 c5)
   | ((with_reducible refine ah (.store 32 (.tmp 3) _) ?_);refine wpList_store_ch info32a rfl (.tmp 3) (.tmp 16) rfl X [I 0,I 0] _ rfl rfl (K5.o.2.blk (by have:=G.o;omega) N.o.p) rfl (two_one 0 0) ?_;intro W6 k6 c6;have K6:=O (And.intro k6 c6);clear k6 c6)
   | ((with_reducible refine ah (.store 33 (.tmp 4) _) ?_);refine wpList_store_one info33 rfl (.tmp 4) (.tmp 17) rfl U 0 33 (I 2) _ rfl rfl rfl rfl (K6.o.2.blk (by have:=G.o;omega) (K5.o.2.blk (by have:=G.o;omega) N.o.e)) (by simp) ?_;intro V k7 c7;have S:=O (And.intro k7 c7);clear k7 c7)
   |fail)
  rw[a5.o];have hz:=G.o;have H7:F3 w V C X U zPgC 0 0 2:=⟨S.o.2.blk (by omega) (K6.o.2.blk (by omega) K5.o.1),rfl,S.o.2.blk (by omega) K6.o.1,S.o.1,S.o.2.below (by omega) (K6.o.2.below (by omega) (K5.o.2.below (by omega) N.o.b)),N.o.lt⟩;exact find_early H7 (pgRL_zero _ _) rfl rfl rfl rfl
 have j:=HR.o;rw[if_pos a0]at j;have a5:=O j.symm;rw[if_pos a0];have e6:=O a0;clear HR j a0;go_wp2_with fail;refine A.o _ _ ?_;clear A M;refine wk fun M A=>?_;go_wp2_with fail;refine A.o _ _ ?_;clear A M;obtain⟨g,hg⟩:∃g,H.1.size=g:=⟨_,rfl⟩;obtain⟨K,a8⟩:∃W,H.alloc (.map #[] 0)=W:=⟨_,rfl⟩;have f8:(Instr.makeMap 97 none).run Tryz.prog H= .ok (.map (some g)) K:=by rw[<-hg,<-a8];kernel_rfl
 have D:Hid (Below H.1.size H K/\MpN K g []/\g<K.1.size):=O (by
  have h1:K.1[g]? =some (.map #[] 0):=by rw[<-a8,<-hg];exact World.alloc_heap_new _ _
  exact⟨by rw[<-a8];exact(Below.refl _ H).alloc (Nat.le_refl _) _,⟨[],0,h1,rfl⟩,(Array.getElem?_eq_some_iff.1 h1).1⟩)
 have HG:Hid (H.1.size=g):=O hg;clear hg a8;refine wk fun M A=>?_;go_wp2_with fail;refine(pwants_any K).mono ?_;rintro e W6 ⟨h,rfl,hh,c9,c8⟩;have H6:=O ((N.o.below D.o.1).below c8);have Y:Hid (MpN W6 g []/\W6.1[h]? =some (.map wantEs.toArray 10)/\h<W6.1.size/\g<h/\H.1.size<=g):=O ⟨D.o.2.1.of (c8.block _ D.o.2.2),c9,(Array.getElem?_eq_some_iff.1 c9).1,by have:=D.o.2.2;omega,Nat.le_of_eq HG.o⟩;have f2:Hid (U<g):=O (by have h1:=N.o.e.lt;have h3:=HG.o;omega);clear f8 D HG c9 c8 hh N;obtain⟨F,hF⟩:∃b,W6.1.size=b:=⟨_,rfl⟩;go_wp2_with (first
  | ((with_reducible refine aa 22 (.box 101 _) ?_);refine wpList_box_blk rfl (.tmp 21) rfl (pcC zPg (List.replicate 9 nilV)++pfT g h ⟨[],0,0,0,0⟩) rfl F hF ?_;intro V k7 b7 s7;have S:=O k7;have B7:=O b7;clear k7 b7)
  |fail)
 refine A.o _ _ ?_;clear A M;obtain⟨B,hB⟩:∃B,V.1.size=B:=⟨_,rfl⟩;have a4:Hid (F<B/\g<B/\h<B/\U<g/\g<h/\h<F/\w.1.size<=g):=O (by have h1:=Y.o;have h3:=f2.o;have h4:=G.o;have h5:=B7.o.size;omega)
 have e0:Hid (Fi V F g h (pcC zPg (List.replicate 9 nilV)) ⟨[],0,0,0,0⟩):=O ⟨rfl,S.o,Y.o.1.of (B7.o.block _ (by have:=Y.o;omega)),(B7.o.block _ Y.o.2.2.1).trans Y.o.2.1,by have:=a4.o;omega,by have:=a4.o;omega,by have:=a4.o;omega⟩;have H7:=O (H6.o.below B7.o);have e4:Hid (Gs B V (List.replicate 9 nilV) (lsP zPg)):=O (Gs.nil B V);have f0:Hid (B<=V.1.size):=O (Nat.le_of_eq hB.symm);clear S B7 s7 hF Y f2 H6 hB;refine wk fun M A=>?_;go_wp2_with fail
 go_loopg [25] E (fun x iv wr=>∃ (i:Nat) (P:Pg) (vs:List Value) (L:List Nm) (ce:Int),i<=E/\x=E-i/\iv=I i/\Hid (F3 w wr C X U zPgC 0 0 0/\Fi wr F g h (pcC P vs) ⟨L,ce,0,0,0⟩/\Gs B wr vs (lsP P)/\B<=wr.1.size)/\Hid (Dk l i P L ce)/\Hid (dcls zPg [] 0 0 l=dcls P L ce i (l.drop i)));case atStart=>exact⟨0,zPg,_,[],0,Nat.zero_le _,rfl,rfl,O ⟨H7.o,e0.o,e4.o,f0.o⟩,O ⟨by decide,by decide,(fun t ht=>by cases ht),(by rw[List.drop_zero];simp[zPg]),(fun x hx=>by cases hx),by decide,rfl,rfl⟩,O (by simp)⟩
 case round=>
  clear H7 e0 e4 f0;obtain⟨i,P,vs,L,ce,hi,rfl,rfl,Z,HD,b8⟩:=hrel;by_cases a3:i<E
  .have k9:(i:Int)< (E:Int):=by omega
   have j5:(0:Int)<=(i:Int):=by omega
   have g5:Hid (wrap64 ((i:Int)+1)=((i+1:Nat):Int)):=O (by have h1:=(b9.o trivial).1;have h2:=(b9.o trivial).2;have:=IntWalk.wrap64_in ((i:Int)+1) (by omega);rw[this];omega)
   obtain⟨b2,d6,dc,rfl,-,d5,h7⟩:=f3.o i (by rw[Q.o];exact a3);have d8:l.getD i default∈l:=by rw[List.getD_eq_getElem?_getD,List.getElem?_eq_getElem (by rw[Q.o];exact a3)];exact List.getElem_mem _
   have d3:l.drop i=l.getD i default::l.drop (i+1):=by rw[List.drop_eq_getElem_cons (by rw[Q.o];exact a3),List.getD_eq_getElem?_getD,List.getElem?_eq_getElem (by rw[Q.o];exact a3)];rfl
   have J:=b8.o;rw[d3,dcls_cons]at J;have f4:=deR_kind (List.all_eq_true.1 e6.o _ d8);generalize l.getD i default=d at *;obtain⟨ba,a2,rfl,-,-⟩:=h7;obtain⟨BN,e1⟩:∃n,d.body.length=n:=⟨_,rfl⟩;rw[e1]at d5;have g2:Hid (wr.rangeAt b2 (d6+i*6) (dcCs d (.slice ba BN a2))):=O fun t v hv=>below_cl Z.o.1.b _ _ _ (World.cellF_cell (by simpa using d5 t v hv));have i2:=O d3;have d0:=O f4;have f1:=O J;obtain⟨bA,e2⟩:∃b,wr.1.size=b:=⟨_,rfl⟩;have f6:Hid (wr.1.size=bA):=O e2;clear J f4 d5 d3 d8 b8 e1;go_wp2_with (first
    | ((with_reducible refine aa 29 (.load 46 _) ?_);refine wpList_load_mid rfl 46 (.tmp 28) rfl b2 (d6+i*6) rfl (dcCs d (.slice ba BN a2)) h0 g2.o e5 e3 info46d ?_)
    | ((with_reducible refine aa 8 (.alloc 46) ?_);refine wpList_alloc_blk f7 g4 g6 rfl rfl bA e2 ?_;intro H k4 b4 s4;have K4:=O k4;have B4:=O b4;clear k4 b4)
    | ((with_reducible refine ah (.store 46 (.tmp 8) _) ?_);refine wpList_store_ch info46d rfl (.tmp 8) (.tmp 29) rfl bA (dcCs d (.slice ba BN a2)) _ rfl rfl K4.o rfl (dcCs_one d rfl) ?_;intro K k5 c5;have D:=O (c5.below (by rw[f6.o];exact Nat.le_refl _) B4.o);have f9:=O k5;clear k5 c5 K4 B4 s4)
    | ((with_reducible refine aa 32 (.load 46 _) ?_);refine wpList_load_blk e5 e3 info46d rfl (.tmp 8) rfl bA (dcCs d (.slice ba BN a2)) rfl f9 rfl ?_)
    |fail)
   have a6:=O (And.intro (Z.o.1.below D.o) (And.intro (Z.o.2.1.up D.o) (And.intro (Z.o.2.2.1.below D.o) (Nat.le_trans Z.o.2.2.2 D.o.size))));have a1:=a4.o;refine(pdec_any d (.slice ba BN a2) i a6.o.2.1 a6.o.2.2.1 ⟨a1.1,a1.2.1,a1.2.2.1,a6.o.2.2.2⟩ rfl d0.o.1 d0.o.2.1 HD.o.ce (by have:=HD.o.i;omega) HD.o.lnp).mono ?_;rintro e W8 ⟨d2,hm⟩;have a9:=O a1;clear a1;have H8:=O (a6.o.1.kpB d2 (by have:=a9.o;have:=G.o;omega) (by have:=a9.o;have:=G.o;omega) (by have:=a9.o;have:=G.o;omega) (by have:=a9.o;omega));have i6:=O (Nat.le_trans a6.o.2.2.2 d2.size);obtain⟨r,hr⟩:∃r,dcl P L ce i d=r:=⟨_,rfl⟩;have J:=f1.o;rw[hr]at hm J;rcases r with er|⟨P',L',i8⟩
   .obtain rfl:=hm;have j:=a5.o;unfold findR at j;rw[J]at j;rw[j];exact find_gone H8.o rfl rfl rfl rfl
   obtain⟨rfl,i0,hf,e8⟩:=hm;have h8:=O (And.intro H8.o (And.intro hf (And.intro e8 i6.o)));have i7:=O (HD.o.step (by rw[Q.o];exact a3) i2.o d0.o.1 hr);have h9:=O J;clear d2 hf e8 hr J f1;go_wp2_with fail;go_roundg (E- (i+1));case measure=>omega
   case rel=>exact⟨i+1,P',i0,L',i8,by omega,rfl,congrArg (Value.int .i64) g5.o,h8,i7,h9⟩
  .obtain rfl:i=E:=by omega
   have j3:¬ (i:Int)< (i:Int):=by omega
   have hQ:=b8.o;rw[<-Q.o,List.drop_length,dcls]at hQ;have j:=a5.o;unfold findR at j;rw[hQ]at j;have g9:=O j;clear hQ j a5;go_wp2_with fail;refine A.o _ _ ?_;exact find_tail Q G a4 Z HD e6 f3 (b9.o trivial) g9
end Go.Proofs.YtgppcdfgdaggjaaGreatDoor
