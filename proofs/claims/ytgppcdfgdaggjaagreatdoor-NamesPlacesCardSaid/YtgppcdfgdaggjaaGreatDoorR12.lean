/- Texts laid together. No condition but what each law says. -/
import Derived.Test.YtgppcdfgdaggjaaGreatDoorR11
set_option maxRecDepth 100000
set_option maxHeartbeats 8000000
namespace Go.Proofs.YtgppcdfgdaggjaaGreatDoor
open Go.RowKit Go.Maps
variable {s:ByteArray}{b j k:Nat}{w:World}{v0:Value}
theorem extract_while(f:UInt8->Bool)(s:ByteArray)(k:Nat):(s.extract k (endOf f s k)).data.toList=(s.data.toList.drop k).takeWhile f:=by rw[ByteArray.data_extract,Array.toList_extract,List.extract_eq_take_drop];have h:=List.prefix_iff_eq_take.1 (List.takeWhile_prefix (l:=s.data.toList.drop k) f);unfold endOf;rw[Nat.add_sub_cancel_left];exact h.symm
theorem while_all(f:UInt8->Bool)(l:List UInt8):∀c∈l.takeWhile f,f c=true:=by
 induction l with
 |nil=>intro c g;cases g
 |cons x r j=>
  intro c g;by_cases h:f x=true
  .rw[List.takeWhile_cons_of_pos h]at g;rcases List.mem_cons.1 g with rfl|g
   .exact h
   .exact j c g
  .rw[List.takeWhile_cons_of_neg h]at g;cases g
theorem extract_all{f:UInt8->Bool}:∀c∈ (s.extract k (endOf f s k)).data.toList,f c=true:=by rw[extract_while];intro c g;exact while_all f _ c g
theorem endOf_lt{f:UInt8->Bool}(g:k<s.size)(h:f (byte s k)=true):k<endOf f s k:=by rw[<-endOf_yes g h];exact endOf_ge f s (k+1)
def badP(s:ByteArray)(k:Nat):Bool:=!(numP (s.extract k (endOf isDig s k)).data.toList).2|| (decide (endOf isDig s k<s.size)&&isLet (byte s (endOf isDig s k)))
theorem ErrR.keep{w':World}(h:ErrR w)(j:Kp w w' b b)(g:7≠b):ErrR w':=by obtain⟨A,C,D,E⟩:=h;refine⟨Nat.lt_of_lt_of_le A j.size,C,D,?_⟩;rw[<-E];unfold World.cell?;rw[j.block 7 A g g]
theorem word_dig{gk:Nat}(hR:Rd w b s k (.map (some gk)) v0)(hO:w.ownsMap Tryz.prog 9 (plainElem Tryz.prog 3) gk 20 (Lst kwL 20))(a5:gk≠b)(hk:k<s.size)(hs:s.size<=4294967296)(f5:ErrR w)(g6:b≠7)
  (hc:isLet (byte s k)=false)(hd:isDig (byte s k)=true):
  Calls Tryz.prog 105 #[Pt b] w (WPost w b s k (.map (some gk)) v0 2 (endOf isDig s k) (if badP s k then 0 else (numP (s.extract k (endOf isDig s k)).data.toList).1) (if badP s k then 112 else 0)):=by
 have a3:=hR.alloc zTok;have b0:=a3.c0;have b1:=a3.c1;have g7:=endOf_le (f:=isDig) (Nat.le_of_lt hk);obtain⟨E,hE⟩:=eX (endOf isDig s k);have HE:=O hE;rw[hE]at g7 ⊢;clear hE;obtain⟨T,R⟩:=eX (s.extract k E);have f7:T.size=E-k:=by rw[<-R,ByteArray.size_extract];omega
 have f4:∀c∈T.data.toList,isDig c=true:=by rw[<-R,<-HE.o];exact extract_all
 have h9:k<E:=by rw[<-HE.o];exact endOf_lt hk hd
 obtain⟨nv,b4⟩:=eX ((numP T.data.toList).1);obtain⟨ok,b6⟩:=eX ((numP T.data.toList).2);have c8:badP s k=(!ok|| (decide (E<s.size)&&isLet (byte s E))):=by unfold badP;rw[HE.o,R,b6]
 obtain⟨bad,e8⟩:=eX (badP s k);rw[e8]at c8 ⊢;rw[R,b4];obtain⟨nm,b9⟩:∃nm:Int,(if bad then 0 else nv)=nm:=⟨_,z⟩;obtain⟨er,a7⟩:∃er:Int,(if bad then 112 else 0)=er:=⟨_,z⟩;rw[b9,a7];have a6:=O b9;have a2:=O a7;have HT:=O R;have e3:=O f7;have HB:=O c8;have g8:=O b4;have g3:=O b6;have g5:=O f4;clear R f7 e8 c8 b4 b6 b9 a7 f4;have hZ:Tk (w.alloc zTok) w.1.size 0 ⟨#[]⟩ 0 (0,0):=World.alloc_heap_new _ _;have e7:=hZ.alloc (pTok (posAt s k));have hP:Tk ((w.alloc zTok).alloc (pTok (posAt s k))) (w.1.size+1) 0 ⟨#[]⟩ 0 (posAt s k):=by have h:Tk ((w.alloc zTok).alloc (pTok (posAt s k))) (w.alloc zTok).1.size 0 ⟨#[]⟩ 0 (posAt s k):=World.alloc_heap_new _ _;rw[World.size_alloc]at h;exact h
 have a4:=a3.alloc (pTok (posAt s k));have d5:Kp w ((w.alloc zTok).alloc (pTok (posAt s k))) b b:=((Kp.refl w b b).alloc _).alloc _;have e6:=owns_keep hO d5 a5 a5;have h7:=hR.lt;have h5:=hO.lt;go_in;go_wp2;change Code.wp _ _ _ _ ((w.alloc zTok).alloc (pTok (posAt s k)));clear a3 hZ hR hO b0 b1;generalize (w.alloc zTok).alloc (pTok (posAt s k))=W0 at *;have b2:=a4.c2;have b3:=a4.c3;have hz:(k:Int)< (s.size:Int):=by omega
 have g9:=byte_at hk;obtain⟨c,e9⟩:=eX (byte s k);rw[e9]at g9 hc hd;clear e9;go_quiet (fail);rename_i nq;obtain⟨W1,J⟩:=eX (W0.drewN nq);have b8:Tk W1 w.1.size 0 ⟨#[]⟩ 0 (0,0):=J▸e7;have d7:Tk W1 (w.1.size+1) 0 ⟨#[]⟩ 0 (posAt s k):=J▸hP;have f3:Rd W1 b s k (.map (some gk)) v0:=J▸a4;have f0:Kp w W1 b b:=by rw[<-J];exact d5.drewN nq
 have f1:W1.ownsMap Tryz.prog 9 (plainElem Tryz.prog 3) gk 20 (Lst kwL 20):=J▸e6;rw[J];clear J e7 hP a4 d5 e6 b2 b3;go_wp2_with fail;apply (letter_any c _).mono;rw[hc];rintro e w' ⟨rfl,rfl⟩;go_wp2_with fail;apply (digit_any c _).mono;rw[hd];rintro e w' ⟨rfl,rfl⟩;go_wp2_with fail;apply (pass_dig f3 (Nat.le_of_lt hk) hs).mono;rintro e W2 ⟨rfl,a8,a1⟩;rw[HE.o]at a8 ⊢;rw[HT.o];have f9:=f0.trans a1;have f2:=b8.of (a1.block _ b8.lt (by omega) (by omega));have Z:=d7.of (a1.block _ d7.lt (by omega) (by omega));have g4:=owns_keep f1 a1 a5 a5;clear b8 d7 f3 f0 f1 a1;have d0:=Z.c0;have d1:=Z.c1;have e0:=Z.frozen;go_wp2_with fail
 change Calls _ _ _ ((W2.setCell ⟨w.1.size+1,1,none⟩ (.string T)).setCell ⟨w.1.size+1,0,none⟩ (I 2)) _;have b5:=(Z.set1 T).set0 2;have d8:=(f2.other (r:=w.1.size+1) (by omega) 1 (.string T)).other (r:=w.1.size+1) (by omega) 0 (I 2);have f8:=(a8.other (r:=w.1.size+1) (by omega) 1 (.string T)).other (r:=w.1.size+1) (by omega) 0 (I 2);have d6:=(f9.setNew (r:=w.1.size+1) (by omega) 1 (.string T)).setNew (r:=w.1.size+1) (by omega) 0 (I 2);have e5:=f5.keep d6 (fun e=>g6 e.symm);have h6:=f5.1;clear Z f2 a8 f9 d0 d1 e0 g4;generalize (W2.setCell ⟨w.1.size+1,1,none⟩ (.string T)).setCell ⟨w.1.size+1,0,none⟩ (I 2)=W4 at *;apply (number_any T W4 (by rw[e3.o];omega) (by rw[e3.o];omega) g5 e5).mono
 rw[g8.o,g3.o];rintro e W5 ⟨rfl,a0⟩;have U:=d8.of (a0.block _ d8.lt);have V:=b5.of (a0.block _ b5.lt);have H:=f8.belowS a0;have X:=d6.trans (Kp.below a0);clear d8 b5 f8 d6 a0 e5;have b2:=H.c2;have b3:=H.c3;have fin:∀ (W:World) (x:Int) (v:Int),Tk W w.1.size 0 ⟨#[]⟩ 0 (0,0)->Rd W b s E (.map (some gk)) v0->Kp w W b b->x=nm->v=er->
   let W':=((((W.setCell ⟨w.1.size,0,none⟩ (I 2)).setCell ⟨w.1.size,1,none⟩ (.string T)).setCell ⟨w.1.size,2,none⟩ (I x)).setCell ⟨w.1.size,3,none⟩ (I (posAt s k).1)).setCell ⟨w.1.size,4,none⟩ (I (posAt s k).2)
   Tk W' w.1.size 2 T x ((posAt s k).1,(posAt s k).2)/\WPost w b s k (.map (some gk)) v0 2 E nm er (.returned (.tuple #[.agg #[I 2,.string T,I x,I (posAt s k).1,I (posAt s k).2],I v])) W':=by
  intro W x v h1 h2 h3 hx hv;subst hx hv;have hb:b≠w.1.size:=by omega
  refine⟨h1.set5 2 T x _ _,by rw[HT.o],((((h2.other hb 0 _).other hb 1 _).other hb 2 _).other hb 3 _).other hb 4 _,?_⟩;exact((((h3.setNew rl 0 _).setNew rl 1 _).setNew rl 2 _).setNew rl 3 _).setNew rl 4 _
 have HF:=O fin;clear fin;have f6:b≠w.1.size+1:=by omega
 cases ok
 .have D:bad=true:=by have h:=HB.o;simpa using h
  have F:(0:Int)=nm:=by have h:=a6.o;rw[D]at h;simpa using h
  have G:(112:Int)=er:=by have h:=a2.o;rw[D]at h;simpa using h
  have M:=O F;have Q:=O G;clear F G D;go_wp2;go_quiet (fail);rename_i nq;obtain⟨C,A⟩:=eX (W5.drewN nq);have g:Tk C w.1.size 0 ⟨#[]⟩ 0 (0,0):=A▸U;have j:Tk C (w.1.size+1) 2 T 0 (posAt s k):=A▸V;have S:Rd C b s E (.map (some gk)) v0:=A▸H;have Y:Kp w C b b:=by rw[<-A];exact X.drewN nq
  rw[A];clear A U V H X b2 b3;have d0:=j.c0;have d1:=j.c1;have d2:=j.c2;have d3:=j.c3;have d4:=j.c4;have e2:=j.frozen 2;have z0:=g.c0;have z1:=g.c1;have z2:=g.c2;have z3:=g.c3;have z4:=g.c4;have y0:=g.frozen 0;have y1:=g.frozen 1;have y2:=g.frozen 2;have y3:=g.frozen 3;have y4:=g.frozen 4;go_wp2;obtain⟨K,N⟩:=HF C 0 112 g S Y M Q;exact end_tk K z z z z N
 .by_cases a9:E<s.size
  .have h8:(E:Int)< (s.size:Int):=by omega
   have h0:=byte_at a9;obtain⟨c2,c9⟩:=eX (byte s E);rw[c9]at h0;obtain⟨q2,b7⟩:=eX (isLet c2);have e4:bad=q2:=by have h:=HB.o;rw[c9,b7,decide_eq_true a9]at h;simpa using h
   have d9:=O e4;have cl:∀W,Calls Tryz.prog 139 #[.int .u8 (c2.toNat:Int)] W fun e w'=>e= .returned (.bool q2)/\w'=W:=fun W=> (letter_any c2 W).mono fun e w' h=>⟨by rw[h.1,b7],h.2.symm⟩;clear c9 b7 e4;go_wp2_with fail;go_quiet ((go_at_call 139;exact Calls.quiet_of_same (cl _)));rename_i nq;obtain⟨C,A⟩:=eX (W5.drewN nq);have g:Tk C w.1.size 0 ⟨#[]⟩ 0 (0,0):=A▸U;have j:Tk C (w.1.size+1) 2 T 0 (posAt s k):=A▸V;have S:Rd C b s E (.map (some gk)) v0:=A▸H;have Y:Kp w C b b:=by rw[<-A];exact X.drewN nq
   rw[A];clear A U V H X b2 b3;clear cl;cases q2
   .have D:bad=false:=by exact d9
    have F:(nv:Int)=nm:=by have h:=a6.o;rw[D]at h;simpa using h
    have G:(0:Int)=er:=by have h:=a2.o;rw[D]at h;simpa using h
    have M:=O F;have Q:=O G;clear F G D;have d0:=j.c0;have d1:=j.c1;have d2:=j.c2;have d3:=j.c3;have d4:=j.c4;have e2:=j.frozen 2;have z0:=g.c0;have z1:=g.c1;have z2:=g.c2;have z3:=g.c3;have z4:=g.c4;have y0:=g.frozen 0;have y1:=g.frozen 1;have y2:=g.frozen 2;have y3:=g.frozen 3;have y4:=g.frozen 4;go_wp2;obtain⟨K,N⟩:=HF (C.setCell ⟨w.1.size+1,2,none⟩ (I nv)) nv 0 (g.other (by omega) 2 _) (S.other f6 2 _) (Y.setNew (by omega) 2 _) M Q;exact end_tk K z z z z N
   .have D:bad=true:=by exact d9
    have F:(0:Int)=nm:=by have h:=a6.o;rw[D]at h;simpa using h
    have G:(112:Int)=er:=by have h:=a2.o;rw[D]at h;simpa using h
    have M:=O F;have Q:=O G;clear F G D;have d0:=j.c0;have d1:=j.c1;have d2:=j.c2;have d3:=j.c3;have d4:=j.c4;have e2:=j.frozen 2;have z0:=g.c0;have z1:=g.c1;have z2:=g.c2;have z3:=g.c3;have z4:=g.c4;have y0:=g.frozen 0;have y1:=g.frozen 1;have y2:=g.frozen 2;have y3:=g.frozen 3;have y4:=g.frozen 4;go_wp2;obtain⟨K,N⟩:=HF C 0 112 g S Y M Q;exact end_tk K z z z z N
  .have D:bad=false:=by have h:=HB.o;rw[decide_eq_false a9]at h;simpa using h
   have F:(nv:Int)=nm:=by have h:=a6.o;rw[D]at h;simpa using h
   have G:(0:Int)=er:=by have h:=a2.o;rw[D]at h;simpa using h
   have M:=O F;have Q:=O G;clear F G D;have h4:=decide_eq_false (by omega);go_wp2;go_quiet (fail);rename_i nq;obtain⟨C,A⟩:=eX (W5.drewN nq);have g:Tk C w.1.size 0 ⟨#[]⟩ 0 (0,0):=A▸U;have j:Tk C (w.1.size+1) 2 T 0 (posAt s k):=A▸V;have S:Rd C b s E (.map (some gk)) v0:=A▸H;have Y:Kp w C b b:=by rw[<-A];exact X.drewN nq
   rw[A];clear A U V H X b2 b3;have d0:=j.c0;have d1:=j.c1;have d2:=j.c2;have d3:=j.c3;have d4:=j.c4;have e2:=j.frozen 2;have z0:=g.c0;have z1:=g.c1;have z2:=g.c2;have z3:=g.c3;have z4:=g.c4;have y0:=g.frozen;go_wp2;obtain⟨K,N⟩:=HF (C.setCell ⟨w.1.size+1,2,none⟩ (I nv)) nv 0 (g.other (by omega) 2 _) (S.other f6 2 _) (Y.setNew (by omega) 2 _) M Q;exact end_tk K z z z z N
theorem empty_list:ByteArray.toList ⟨#[]⟩=[]:=by unfold ByteArray.toList ByteArray.toList.loop;rfl
theorem word_sgn(S:Rd w b s k v0 (.map (some j)))(V:w.ownsMap Tryz.prog 9 (plainElem Tryz.prog 3) j 20 (Lst sgL 20))(a1:j≠b)(hk:k<s.size)(hs:s.size<=4294967296)
  (hc:isLet (byte s k)=false)(hd:isDig (byte s k)=false):
  Calls Tryz.prog 105 #[Pt b] w (WPost w b s k v0 (.map (some j)) 4 (k+sgnF s k (min 2 (s.size-k))) 0 (if sgnF s k (min 2 (s.size-k))=0 then 110 else 0)):=by
 have Q:=S.alloc zTok;have b0:=Q.c0;have b1:=Q.c1;obtain⟨n,H⟩:=eX (sgnF s k (min 2 (s.size-k)));rw[H];have e2:k+n<=s.size:=by have h:=sgnF_le s k (min 2 (s.size-k));rw[H]at h;omega
 have d6:=O H;clear H;obtain⟨T,hT⟩:=eX (s.extract k (k+n));have b7:T.size=n:=by rw[<-hT,ByteArray.size_extract];omega
 obtain⟨er,a2⟩:∃er:Int,(if n=0 then 110 else 0)=er:=⟨_,z⟩;rw[a2];have b8:=O a2;have HT:=O hT;have a9:=O b7;clear a2 hT b7;have hZ:Tk (w.alloc zTok) w.1.size 0 ⟨#[]⟩ 0 (0,0):=World.alloc_heap_new _ _;have a4:=hZ.alloc (pTok (posAt s k));have hP:Tk ((w.alloc zTok).alloc (pTok (posAt s k))) (w.1.size+1) 0 ⟨#[]⟩ 0 (posAt s k):=by have h:Tk ((w.alloc zTok).alloc (pTok (posAt s k))) (w.alloc zTok).1.size 0 ⟨#[]⟩ 0 (posAt s k):=World.alloc_heap_new _ _;rw[World.size_alloc]at h;exact h
 have G:=Q.alloc (pTok (posAt s k));have R:Kp w ((w.alloc zTok).alloc (pTok (posAt s k))) b b:=((Kp.refl w b b).alloc _).alloc _;have a8:=owns_keep V R a1 a1;have d9:=S.lt;have d8:=V.lt;go_in;go_wp2;change Code.wp _ _ _ _ ((w.alloc zTok).alloc (pTok (posAt s k)));clear Q hZ S V b0 b1;generalize (w.alloc zTok).alloc (pTok (posAt s k))=W0 at *;have b2:=G.c2;have b3:=G.c3;have hz:(k:Int)< (s.size:Int):=by omega
 have d5:=byte_at hk;obtain⟨c,b6⟩:=eX (byte s k);rw[b6]at d5 hc hd;clear b6;go_quiet (fail);rename_i nq;obtain⟨E,C⟩:=eX (W0.drewN nq);have X:Tk E w.1.size 0 ⟨#[]⟩ 0 (0,0):=C▸a4;have a0:Tk E (w.1.size+1) 0 ⟨#[]⟩ 0 (posAt s k):=C▸hP;have c8:Rd E b s k v0 (.map (some j)):=C▸G;have a5:Kp w E b b:=by rw[<-C];exact R.drewN nq
 have a3:E.ownsMap Tryz.prog 9 (plainElem Tryz.prog 3) j 20 (Lst sgL 20):=C▸a8;rw[C];clear C a4 hP G R a8 b2 b3;go_wp2_with fail;apply (letter_any c _).mono;rw[hc];rintro e w' ⟨rfl,rfl⟩;go_wp2_with fail;apply (digit_any c _).mono;rw[hd];rintro e w' ⟨rfl,rfl⟩;go_wp2_with fail;apply (sign_any c8 a3 a1 hk hs).mono;rintro e W2 ⟨Y,a7,rfl,b5,M⟩;rw[d6.o]at a7;subst a7;rw[HT.o];have b4:=a5.trans M;have g:=X.of (M.block _ X.lt (by omega) (by omega));have A:=a0.of (M.block _ a0.lt (by omega) (by omega));clear X a0 c8 a5 a3 M;have d0:=A.c0;have d1:=A.c1;have d2:=A.c2;have d3:=A.c3;have d4:=A.c4;have e0:=A.frozen;have z0:=g.c0;have z1:=g.c1;have z2:=g.c2;have z3:=g.c3;have z4:=g.c4;have y0:=g.frozen
 have fin:∀ (W:World) (v:Int),Tk W w.1.size 0 ⟨#[]⟩ 0 (0,0)->Rd W b s (k+Y) v0 (.map (some j))->Kp w W b b->v=er->
   let W':=((((W.setCell ⟨w.1.size,0,none⟩ (I 4)).setCell ⟨w.1.size,1,none⟩ (.string T)).setCell ⟨w.1.size,2,none⟩ (I 0)).setCell ⟨w.1.size,3,none⟩ (I (posAt s k).1)).setCell ⟨w.1.size,4,none⟩ (I (posAt s k).2)
   Tk W' w.1.size 4 T 0 ((posAt s k).1,(posAt s k).2)/\WPost w b s k v0 (.map (some j)) 4 (k+Y) 0 er (.returned (.tuple #[.agg #[I 4,.string T,I 0,I (posAt s k).1,I (posAt s k).2],I v])) W':=by
  intro W v h1 J h3 hv;subst hv;have D:b≠w.1.size:=by omega
  refine⟨h1.set5 4 T 0 _ _,by rw[HT.o],((((J.other D 0 _).other D 1 _).other D 2 _).other D 3 _).other D 4 _,?_⟩;exact((((h3.setNew rl 0 _).setNew rl 1 _).setNew rl 2 _).setNew rl 3 _).setNew rl 4 _
 have HF:=O fin;clear fin;have N:b≠w.1.size+1:=by omega
 obtain⟨q,hq⟩:=eX ((T.toList==([]:List UInt8)));by_cases K:Y=0
 .have F:(110:Int)=er:=by have h:=b8.o;rw[if_pos K]at h;exact h
  have Z:=O F;have c9:T=⟨#[]⟩:=by apply ByteArray.ext;exact Array.eq_empty_of_size_eq_zero (by have h:=a9.o;rw[K]at h;exact h)
  subst c9;clear F hq;go_wp2;obtain⟨U,g2⟩:=HF ((W2.setCell ⟨w.1.size+1,1,none⟩ (.string ⟨#[]⟩)).setCell ⟨w.1.size+1,0,none⟩ (I 4)) 110 ((g.other (by omega) 1 _).other (by omega) 0 _) ((b5.other N 1 _).other N 0 _) ((b4.setNew (by omega) 1 _).setNew (by omega) 0 _) Z;exact end_tk U z z z z g2
 .have F:(0:Int)=er:=by have h:=b8.o;rw[if_neg K]at h;exact h
  have Z:=O F;have b9:(T.toList==ByteArray.toList ⟨#[]⟩)=false:=by rw[Lib.bytes_beq_false_iff];intro h;have J:=a9.o;rw[h]at J;exact K J.symm
  have a6:¬T.toList=[]:=by intro h;rw[beq_eq_false_iff_ne]at b9;apply b9;rw[h,empty_list]
  have d7:T.toList.isEmpty=false:=by
   cases hl:T.toList with
   |nil=>exact absurd hl a6
   |cons a l=>rfl
  have e3:(T.toList==[])=false:=by
   cases hl:T.toList with
   |nil=>exact absurd hl a6
   |cons a l=>rfl
  clear F hq;go_wp2;obtain⟨U,g2⟩:=HF ((W2.setCell ⟨w.1.size+1,1,none⟩ (.string T)).setCell ⟨w.1.size+1,0,none⟩ (I 4)) 0 ((g.other (by omega) 1 _).other (by omega) 0 _) ((b5.other N 1 _).other N 0 _) ((b4.setNew (by omega) 1 _).setNew (by omega) 0 _) Z;exact end_tk U z z z z g2
def wKind(s:ByteArray)(k:Nat):Int:=if isLet (byte s k) then (if isKw (s.extract k (endOf isAny s k)).data.toList then 3 else 1) else if isDig (byte s k) then 2 else 4
def wEnd(s:ByteArray)(k:Nat):Nat:=if isLet (byte s k) then endOf isAny s k else if isDig (byte s k) then endOf isDig s k else k+sgnF s k (min 2 (s.size-k))
def wNum(s:ByteArray)(k:Nat):Int:=if isLet (byte s k) then 0 else if isDig (byte s k) then (if badP s k then 0 else (numP (s.extract k (endOf isDig s k)).data.toList).1) else 0
def wErr(s:ByteArray)(k:Nat):Int:=
 if isLet (byte s k) then (if isKw (s.extract k (endOf isAny s k)).data.toList then 0 else if 16<endOf isAny s k-k then 111 else 0)
 else if isDig (byte s k) then (if badP s k then 112 else 0) else (if sgnF s k (min 2 (s.size-k))=0 then 110 else 0)
theorem word_any{gk:Nat}(C:Rd w b s k (.map (some gk)) (.map (some j)))(F:w.ownsMap Tryz.prog 9 (plainElem Tryz.prog 3) gk 20 (Lst kwL 20))(K:w.ownsMap Tryz.prog 9 (plainElem Tryz.prog 3) j 20 (Lst sgL 20))
  (E:gk≠b)(G:j≠b)(g:k<s.size)(D:s.size<=4294967296)(H:ErrR w)(J:b≠7):
  Calls Tryz.prog 105 #[Pt b] w (WPost w b s k (.map (some gk)) (.map (some j)) (wKind s k) (wEnd s k) (wNum s k) (wErr s k)):=by
 unfold wKind wEnd wNum wErr;cases A:isLet (byte s k) with
 |true=>exact word_let C F E g D A
 |false=>
  cases hd:isDig (byte s k) with
  |true=>exact word_dig C F E g D H J A hd
  |false=>exact word_sgn C K G g D A hd
theorem wEnd_le(g:k<s.size):wEnd s k<=s.size:=by
 unfold wEnd;split
 .exact(endOf_le (Nat.le_of_lt g)).2
 .split
  .exact(endOf_le (Nat.le_of_lt g)).2
  .have h:=sgnF_le s k (min 2 (s.size-k));omega
theorem wEnd_gt(j:k<s.size)(g:wErr s k=0):k<wEnd s k:=by
 unfold wErr at g;unfold wEnd;cases w:isLet (byte s k) with
 |true=>exact endOf_lt j (by unfold isAny;rw[w];rfl)
 |false=>
  cases hd:isDig (byte s k) with
  |true=>exact endOf_lt j hd
  |false=>
   rw[w,hd]at g;simp only[Bool.false_eq_true,if_false]at g ⊢;split at g
   .cases g
   .omega
def isName(s:ByteArray):Bool:=decide (0<s.size)&& (decide (s.size<=16)&& (isLet (byte s 0)&& (s.data.toList.all isAny&&!isKw s.data.toList)))
theorem name_any(s:ByteArray)(w:World)(hs:s.size<=9223372036854775807):Calls Tryz.prog 114 #[.string s] w fun e w'=>e= .returned (.bool (isName s))/\bL w w':=by
 by_cases g:s.size=0
 .have a1:s=⟨#[]⟩:=by apply ByteArray.ext;exact Array.eq_empty_of_size_eq_zero g
  subst a1;rw[show isName ⟨#[]⟩=false from z];clear g hs;go_in;go_wp2;go_ret;exact⟨z,Below.refl _ _⟩
 .have E:¬s.toList=[]:=by
   intro h;apply g;have Y:(s.toList==ByteArray.toList ⟨#[]⟩)=true:=by rw[h,empty_list];rfl
   rw[Lib.bytes_beq_iff]at Y;rw[Y];rfl
  have a2:s.toList.isEmpty=false:=by
   cases M:s.toList with
   |nil=>exact absurd M E
   |cons a l=>rfl
  have a0:(s.toList==[])=false:=by
   cases M:s.toList with
   |nil=>exact absurd M E
   |cons a l=>rfl
  have A:0<s.size:=by omega
  by_cases C:s.size<=16
  .have a3:¬ (16:Int)< (s.size:Int):=by omega
   have a5:(0:Int)< (s.size:Int):=by omega
   have S:=byte_at A;obtain⟨c,G⟩:=eX (byte s 0);rw[G]at S;obtain⟨q,J⟩:=eX (isLet c);obtain⟨R,j⟩:=eX (isName s);rw[j];have Q:R=(q&& (s.data.toList.all isAny&&!isKw s.data.toList)):=by rw[<-j];unfold isName;rw[decide_eq_true A,decide_eq_true C,G,J];rfl
   have HR:=O Q;have cl:=letter_any c w;rw[J]at cl;have H0:=O g;clear j Q G J g;go_in;go_wp2_with fail;apply cl.mono;rintro e w' ⟨rfl,rfl⟩;cases q
   .obtain rfl:R=false:=HR;go_wp2;go_ret;exact⟨z,Below.refl _ _⟩
   .clear cl S E a2 a0;go_wp2;go_loopw [19] (fun i wr=>∃k:Nat,k<=s.size/\i=I k/\w=wr/\Hid (((s.data.toList.drop k).all isAny&&!isKw s.data.toList)=R)) (fun i _=>s.size- (intOf i).toNat);case atStart=>exact⟨0,by omega,z,z,O (by rw[HR.o];rfl)⟩
    case round=>
     obtain⟨k,hk,rfl,rfl,V⟩:=hrel;by_cases U:k<s.size
     .have hz:(k:Int)< (s.size:Int):=by omega
      have a4:=byte_at U;obtain⟨d,hd⟩:=eX (byte s k);have N:=drop_byte U;rw[hd]at a4 N;obtain⟨X,K⟩:=eX (isLet d);obtain⟨W,D⟩:=eX (isDig d);have c1:=letter_any d w;have c2:=digit_any d w;rw[K]at c1;rw[D]at c2;have Z:(((X||W)&& (s.data.toList.drop (k+1)).all isAny)&&!isKw s.data.toList)=R:=by rw[<-V.o,N,List.all_cons];unfold isAny;rw[K,D]
      have F:=O Z;clear K D hd N Z;go_wp2_with fail;apply c1.mono;rintro e w' ⟨rfl,rfl⟩;cases X
      .go_wp2_with fail;apply c2.mono;rintro e w' ⟨rfl,rfl⟩;cases W
       .obtain rfl:R=false:=by rw[<-F.o];rfl
        go_wp2;go_ret;exact⟨z,Below.refl _ _⟩
       .have H:=O (show ((s.data.toList.drop (k+1)).all isAny&&!isKw s.data.toList)=R by rw[<-F.o];rfl);go_wp2;go_roundw;case rel=>exact⟨k+1,by omega,by go_num,trivial,H⟩
        case measure=>simp[intOf];omega
      .have H:=O (show ((s.data.toList.drop (k+1)).all isAny&&!isKw s.data.toList)=R by rw[<-F.o];rfl);go_wp2;go_roundw;case rel=>exact⟨k+1,by omega,by go_num,trivial,H⟩
       case measure=>simp[intOf];omega
     .obtain rfl:k=s.size:=by omega
      have j:R=!isKw s.data.toList:=by rw[<-V.o,List.drop_eq_nil_of_le (by rw[size_list];exact Nat.le_refl _)];rfl
      subst j;go_wp2_with fail;apply (keyword_any s w (by omega)).mono;rintro e w' ⟨rfl,hb⟩;go_wp2;go_ret;exact⟨z,hb⟩
  .have a3:(16:Int)< (s.size:Int):=by omega
   rw[show isName s=false by unfold isName;rw[decide_eq_true A,decide_eq_false C];rfl];clear g C A;go_in;go_wp2;go_ret;exact⟨z,Below.refl _ _⟩
end Go.Proofs.YtgppcdfgdaggjaaGreatDoor
