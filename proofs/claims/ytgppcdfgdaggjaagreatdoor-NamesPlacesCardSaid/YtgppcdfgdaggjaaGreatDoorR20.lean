/- Texts laid together. No condition but what each law says. -/
import Derived.Test.YtgppcdfgdaggjaaGreatDoorR19
import Derived.Test.YtgppcdfgdaggjaaGreatDoorR13
set_option maxRecDepth 100000
set_option maxHeartbeats 16000000
namespace Go.Proofs.YtgppcdfgdaggjaaGreatDoor
open Go.RowKit Go.Maps
variable {A:Act}{W:World}{b i:Nat}{v v0:Value}
def parseR(s:ByteArray):List De× (Int×Int)×Int:=
 if (lexR s).2.2=0 then match pDs (lexR s).1 ((lexR s).1.length+1) [] 0 with
  |some (.ok (l,_))=> (match deDeep l with|some p=> ([],p,121)|none=> (l,(0,0),0))
  |some (.error j)=> ([],((nextW (lexR s).1 (posAt s s.size) j).line,(nextW (lexR s).1 (posAt s s.size) j).col),120)
  |none=> ([],(0,0),0)
 else ([],(lexR s).2.1,(lexR s).2.2)
def PaOk(w:World)(R:List De× (Int×Int)×Int)(e:Ending)(w':World):Prop:=Below w.1.size w w'/\∃ (a:Option Addr) (cap:Nat),e= .returned (.tuple #[.slice a R.1.length cap,.agg #[.int .i64 R.2.1.1,.int .i64 R.2.1.2],.int .i64 R.2.2])/\Roomy R.1.length cap/\DesS (w.1.size<=·) w' a R.1
theorem end_pa{j:Func}{R:Ending->World->Prop}{s t u:Tmp}{x y:Int}(h:Blk W b 32 [I x,I y])(K:j.results= #[.tmp t,.cell s 32,.tmp u])
  (C:A.tmps.getD t undef=v0)(G:A.tmps.getD s undef=Pt b)(D:A.tmps.getD u undef=v)(hd:A.defers=[])(J:R (.returned (.tuple #[v0,.agg #[I x,I y],v])) W):bodyPost Tryz.prog j R .ret A W:=by
 have g:=h.cell 0;have w:=h.cell 1;simp only[List.getElem?_cons_zero,List.getElem?_cons_succ]at g w;have F:A.tmps[s]?.getD undef=Pt b:=by rw[<-G];simp
 have E:A.tmps[u]?.getD undef=v:=by rw[<-D];simp
 have H:A.tmps[t]?.getD undef=v0:=by rw[<-C];simp
 refine bodyPost_ret (v:= .tuple #[v0,.agg #[I x,I y],v]) ?_ hd J;simp[results,K,go_sem,F,E,H,g,w]
theorem de_drop{l:List De}(h:i<l.length):deDeep (l.drop i)=match St.deeps (l.getD i default).body 1 with|some p=>some p|none=>deDeep (l.drop (i+1)):=by rw[List.drop_eq_getElem_cons h,deDeep,List.getD_eq_getElem?_getD,List.getElem?_eq_getElem h];cases hd:St.deeps l[i].body 1<;>simp[hd]
theorem des_nil{ok:Nat->Prop}(w:World):DesS ok w none []:=fun j g=>by cases g
theorem lex_out2(s:ByteArray)(w:World)(F:ErrR w):Calls Tryz.prog 29 #[.string s] w fun e w'=>
  ∃a cap,e= .returned (.tuple #[.slice a (lexR s).1.length cap,.agg #[I (lexR s).2.1.1,I (lexR s).2.1.2],I (lexR s).2.2])/\LOut (lexR s).1 a cap w'/\bL w w'/\∀g o,a=some ⟨g,o,none⟩->g<w'.1.size:=(lex_any s w F).mono fun _ _ h=>by
 obtain⟨v,rfl,j,C⟩:=h;have A:=wds_of j;have D:=j.lt;rcases j.2 with ⟨rfl,E⟩|⟨g,cap,K,rfl,_,_,H,G,_⟩
 .exact⟨none,0,by rw[E],⟨A,by omega,Nat.zero_le _⟩,C,fun g o e=>by cases e⟩
 .exact⟨some ⟨g,0,none⟩,cap,z,⟨A,H,G⟩,C,fun J o e=>by cases e;exact(D g z).2⟩
theorem parse_any(s:ByteArray)(w:World)(hE:ErrR w)(hO:Ops w):Calls Tryz.prog 13 #[.string s] w (PaOk w (parseR s)):=by
 have h8:=Blk.new w 32 [I 0,I 0];have e2:bL w (w.alloc (.cells #[I 0,I 0] 32)):=(Below.refl _ w).alloc rl _;have l9:(w.alloc (.cells #[I 0,I 0] 32)).1.size=w.1.size+1:=by simp
 have f6:=lex_out2 s (w.alloc (.cells #[I 0,I 0] 32)) (hE.below e2 (by have:=hE.1;omega));have h9:=lexR_len s;have f4:=num_bd s;obtain⟨RR,F⟩:=eX (parseR s);rw[F];have g2:(lexR s).2.2=0->s.size<=65536:=fun h=>by
  unfold lexR at h;split at h
  .cases h
  .omega
 unfold parseR at F;obtain⟨⟨T,⟨G,H⟩,er⟩,hL⟩:∃L,lexR s=L:=⟨_,z⟩;rw[hL]at f6 F h9 f4 g2;dsimp only at F h9 f4 g2;have HL:=O hL;clear hL;go_in;go_wp2_with fail;refine f6.mono ?_;rintro e X ⟨a1,a7,rfl,d5,a0,j6⟩;dsimp only at d5 ⊢;have R:=h8.below a0;have b5:=e2.trans (a0.mono e2.size);have i9:=a0.size;clear h8 e2 a0 f6;by_cases he:er=0
 .subst he;rw[if_pos rfl]at F;obtain⟨D,J⟩:∃D,pDs T (T.length+1) [] 0=some D:=pDs_total T (T.length+1) [] 0 (Nat.zero_le _) (by omega);rw[J]at F;have l5:=g2 z;have C:=R.alloc (.cells #[I G,I H] 32);have V:=b5.alloc b5.size (.cells #[I G,I H] 32);have W:=Blk.new X 32 [I G,I H];have i8:=d5.below ((Below.refl _ X).alloc rl (.cells #[I G,I H] 32));have k6:(X.alloc (.cells #[I G,I H] 32)).1.size=X.1.size+1:=by simp
  have d8:=end_any s (X.alloc (.cells #[I G,I H] 32)) (by omega);obtain⟨⟨ex,A⟩,h4⟩:∃p,posAt s s.size=p:=⟨_,z⟩;rw[h4]at d8 F;dsimp only at d8 F;have d4:=O F;clear F h4 R b5 d5;go_wp2_with fail;obtain⟨q,hq⟩:=eX (X.1.size);rw[hq]at W i9 k6 ⊢;change Blk (X.alloc (.cells #[I G,I H] 32)) q 32 [I G,I H]at W;generalize X.alloc (.cells #[I G,I H] 32)=W2 at *;refine d8.mono ?_;rintro e W3 ⟨rfl,b4⟩;have h6:=C.below b4;have g8:=W.below b4;have h0:=i8.below b4;have e6:=V.trans (b4.mono V.size);have k9:=b4.size;clear C W i8 V b4 d8;go_wp2_with fail;refine(kinds_any W3).mono ?_;rintro e U ⟨g,rfl,e7⟩;have b7:=e7.blw;obtain⟨l,n,hg,g6⟩:=e7.reads;have f0:=(Array.getElem?_eq_some_iff.1 hg).1
  have g5:=h6.below b7;have h7:=g8.below b7;have j2:=h0.below b7;have f7:=e6.trans (b7.mono e6.size);have j4:=b7.size;clear h6 g8 h0 e6;go_wp2_with fail;have h3:U.1.size≠0:=by omega
  have h5:Rw (U.alloc (.cells #[.slice a1 T.length a7,I 0,I ex,I A,.map (some g)] 89)) U.1.size ⟨a1,a7,T,(ex,A),.map (some g)⟩ 0:=
   ⟨World.alloc_heap_new _ _,j2.wds.alloc _,fun g' o e=>by have:=j6 g' o e;omega,Nat.zero_le _,by dsimp only;omega⟩
  have b6:bL U (U.alloc (.cells #[.slice a1 T.length a7,I 0,I ex,I A,.map (some g)] 89)):=(Below.refl _ U).alloc rl _;have f3:=f7.trans (b6.mono f7.size);have g4:=g5.below b6;have i0:=h7.below b6;have i3:=hO.below f3;have i6:Kds (U.alloc (.cells #[.slice a1 T.length a7,I 0,I ex,I A,.map (some g)] 89)) U.1.size ⟨a1,a7,T,(ex,A),.map (some g)⟩:=
   ⟨g,l,n,z,f0,(b6.block g f0).trans hg,fun s=> (g6 s).move rl (fun c o u hc hu=>by rw[<-hu];simp only[World.cell?];rw[b6.block c hc])⟩
  have f8:=program_any (S:=⟨a1,a7,T,(ex,A),.map (some g)⟩) h3 f4 h5 i3 i6 J;have j7:(U.alloc (.cells #[.slice a1 T.length a7,I 0,I ex,I A,.map (some g)] 89)).1.size=U.1.size+1:=by simp
  clear h5 i3 i6 b6 g5 h7 f7 b7 e7 g6 hg j2;obtain⟨b,hb⟩:=eX (U.1.size);rw[hb]at f8 h3 j7 j4 f0 ⊢;generalize U.alloc (.cells #[.slice a1 T.length a7,I 0,I ex,I A,.map (some g)] 89)=W5 at *;refine f8.mono ?_;rintro e W6 ⟨b9,i4⟩;have l7:w.1.size<b:=by omega
  have g9:q≠b:=by omega
  have g3:w.1.size≠b:=by omega
  have d7:Below w.1.size w W6:=b9.to_below f3 (by omega) (by omega) (by omega);have e3:=g4.kp b9 g3 g3;have a8:=i0.kp b9 g9 g9;have k7:=b9.size;clear f8 g4 i0 f3 b9;have d6:q≠w.1.size:=by omega
  have y0:=a8.cell 0;have y1:=a8.cell 1;have e0:=a8.frozen 0;have e1:=a8.frozen 1;rcases D with j|⟨K,j⟩
  .obtain rfl:=i4;have F:=d4.o;dsimp only at F;subst F;dsimp only;clear J d4;have a5:=(a8.set1 0 (I (nextW T (ex,A) j).line)).set1 1 (I (nextW T (ex,A) j).col);have N:=(e3.other (Ne.symm d6) 0 (I (nextW T (ex,A) j).line)).other (Ne.symm d6) 1 (I (nextW T (ex,A) j).col);have Y:=(d7.setCell (p:=⟨q,0,none⟩) (by show w.1.size<=q;omega) (I (nextW T (ex,A) j).line)).setCell (p:=⟨q,1,none⟩) (by show w.1.size<=q;omega) (I (nextW T (ex,A) j).col);have Q:=O (And.intro a5 (And.intro N Y));clear a5 N Y a8 e3 d7;go_wp2_with fail;obtain⟨a5,N,Y⟩:=Q.o;clear Q y0 y1 e0 e1
   change Blk ((W6.setCell ⟨q,0,none⟩ (I (nextW T (ex,A) j).line)).setCell ⟨q,1,none⟩ (I (nextW T (ex,A) j).col)) q 32 [I (nextW T (ex,A) j).line,I (nextW T (ex,A) j).col]at a5;generalize (W6.setCell ⟨q,0,none⟩ (I (nextW T (ex,A) j).line)).setCell ⟨q,1,none⟩ (I (nextW T (ex,A) j).col)=W7 at *;have E:=O (And.intro ((N.set1 0 (I (nextW T (ex,A) j).line)).set1 1 (I (nextW T (ex,A) j).col)) ((Y.setCell (p:=⟨w.1.size,0,none⟩) rl (I (nextW T (ex,A) j).line)).setCell (p:=⟨w.1.size,1,none⟩) rl (I (nextW T (ex,A) j).col)));have y0:=a5.cell 0;have y1:=a5.cell 1;have z0:=N.cell 0;have z1:=N.cell 1;have g0:=N.frozen 0;have g1:=N.frozen 1;clear a5 N Y;go_region;go_wp2_with fail;first
    |exact end_pa E.o.1 z z z z z ⟨E.o.2,none,0,z,⟨rl,by decide⟩,des_nil _⟩
    |exact end_pa E.o.1.drew z z z z z ⟨below_drewN E.o.2 1,none,0,z,⟨rl,by decide⟩,des_nil _⟩
  .obtain⟨a2,k0,rfl,e4,i7⟩:=i4;have a5:=(a8.set1 0 (I 0)).set1 1 (I 0);have N:=(e3.other (Ne.symm d6) 0 (I 0)).other (Ne.symm d6) 1 (I 0);have Y:=(d7.setCell (p:=⟨q,0,none⟩) (by show w.1.size<=q;omega) (I 0)).setCell (p:=⟨q,1,none⟩) (by show w.1.size<=q;omega) (I 0);have d3:DesS (fun c=>w.1.size+1<=c) ((W6.setCell ⟨q,0,none⟩ (.int .i64 0)).setCell ⟨q,1,none⟩ (.int .i64 0)) a2 K:=(i7.keep (fun c hc _=>by have f5:W5.1.size<=c:=hc;rw[Below.heap_setCell _ ⟨q,1,none⟩ _ c (show c≠q by omega),Below.heap_setCell _ ⟨q,0,none⟩ _ c (show c≠q by omega)])).weak (fun c hc=>by have f5:W5.1.size<=c:=hc;show w.1.size+1<=c;omega)
   have Q:=O (And.intro N (And.intro Y d3));clear a5 N Y a8 e3 d7 i7 d3;go_wp2_with fail;obtain⟨N,Y,d3⟩:=Q.o;clear Q y0 y1 e0 e1;generalize (W6.setCell ⟨q,0,none⟩ (I 0)).setCell ⟨q,1,none⟩ (I 0)=W7 at *;obtain⟨M,hM⟩:=eX (K.length);rw[hM]at e4 ⊢;have HM:=O hM;have HE:=O (And.intro N (And.intro Y d3));have F:=d4.o;have HD:Hid ((match deDeep K with|some p=> ([],p,121)|none=> (K,(0,0),0))=RR):=O F;clear hM N Y d3 F d4 J;go_loopg [43] M (fun x iv wr=>∃i:Nat,i<=M/\x=M-i/\iv=I i/\Hid (Blk wr w.1.size 32 [I 0,I 0]/\bL w wr/\DesS (fun c=>w.1.size+1<=c) wr a2 K)/\Hid ((match deDeep (K.drop i) with|some p=> ([],p,121)|none=> (K,(0,0),0))=RR));case atStart=>exact⟨0,Nat.zero_le _,z,z,HE,HD⟩
   case round=>
    clear HE HD;obtain⟨i,hi,rfl,rfl,HE,HD⟩:=hrel;obtain⟨R,a0,d2⟩:=HE.o;by_cases g7:i<M
    .have k2:(i:Int)< (M:Int):=by omega
     have l4:(0:Int)<=(i:Int):=by omega
     have l2:(i:Int)+1<=9223372036854775807:=by have h1:=e4.1;have h2:=e4.2;omega
     obtain⟨b2,e5,cs,rfl,-,a9,i1,-⟩:=d2 i (by rw[HM.o];exact g7);obtain⟨d,hd⟩:=eX (K.getD i default);rw[hd]at i1;obtain⟨dk,f2,e8,f1,du,db⟩:=d;obtain⟨ab,d0,rfl,k1,i5⟩:=i1;have x0:=World.cellF_cell (a9 0 _ z);have x1:=World.cellF_cell (a9 1 _ z);have x2:=World.cellF_cell (a9 2 _ z);have x3:=World.cellF_cell (a9 3 _ z);have x4:=World.cellF_cell (a9 4 _ z);have x5:=World.cellF_cell (a9 5 _ z);dsimp only[Nat.add_zero]at x0 x1 x2 x3 x4 x5;have j0:SlAt wr ab d0 db:=⟨k1,StsL.weak (fun _ _=>trivial) i5⟩;have a3:bL wr (wr.alloc (.cells #[I dk,I f2,I e8,.string f1,I du,.slice ab db.length d0] 46)):=(Below.refl _ wr).alloc rl _;have i2:=deep_any 24 1 (by decide) db ab d0 _ (j0.below a3)
     have C:=R.below a3;have V:=a0.trans (a3.mono a0.size);have d1:DesS (fun c=>w.1.size+1<=c) (wr.alloc (.cells #[.int .i64 dk,.int .i64 f2,.int .i64 e8,.string f1,.int .i64 du,.slice ab db.length d0] 46)) (some ⟨b2,e5,none⟩) K:=d2.keep fun c _ hl=>a3.block c hl;have Q:=O (And.intro C (And.intro V d1));clear R a0 d2 a9 i5 j0 a3 C V d1;go_wp2_with fail;obtain⟨C,V,d1⟩:=Q.o;clear Q x0 x1 x2 x3 x4 x5;generalize wr.alloc (.cells #[I dk,I f2,I e8,.string f1,I du,.slice ab db.length d0] 46)=W8 at *;refine i2.mono ?_;rintro e Z ⟨d9,rfl⟩;have c8:=C.below d9;have b8:=V.trans (d9.mono V.size);have e9:DesS (fun c=>w.1.size+1<=c) Z (some ⟨b2,e5,none⟩) K:=d1.keep fun c _ hl=>d9.block c hl
     clear C V d1 d9 i2;have J:=HD.o;have f9:deDeep (K.drop i)=match St.deeps db 1 with|some p=>some p|none=>deDeep (K.drop (i+1)):=by rw[de_drop (by rw[HM.o];exact g7),hd]<;>rfl
     rw[f9]at J;have j8:w.1.size<Z.1.size:=c8.lt;rcases hdd:St.deeps db 1 with _|⟨pl,pc⟩
     .rw[hdd]at J;unfold deepV;have a3:bL Z (Z.alloc (.cells #[I 0,I 0] 32)):=(Below.refl _ Z).alloc rl _;have j1:DesS (fun c=>w.1.size+1<=c) (Z.alloc (.cells #[.int .i64 0,.int .i64 0] 32)) (some ⟨b2,e5,none⟩) K:=e9.keep fun c _ hl=>a3.block c hl;have j5:=O (And.intro (c8.below a3) (And.intro (b8.trans (a3.mono b8.size)) j1));have j9:Hid ((match deDeep (K.drop (i+1)) with|some p=> ([],p,121)|none=> (K,(0,0),0))=RR):=O J;clear c8 b8 e9 a3 j1 J f9 hdd HE HD;go_wp2_with fail;go_roundg (M- (i+1));case measure=>omega
      case rel=>exact⟨i+1,by omega,z,z,j5,j9⟩
     .rw[hdd]at J;dsimp only at J;subst J;unfold deepV;have a4:=c8.alloc (.cells #[I pl,I pc] 32);have c9:=b8.alloc b8.size (.cells #[I pl,I pc] 32);have a6:=Blk.new Z 32 [I pl,I pc];have Q:=O (And.intro a4 (And.intro c9 a6));clear a4 c9 a6 c8 b8 e9 f9 hdd HE HD;go_upto_region 13 with fail;obtain⟨a4,c9,a6⟩:=Q.o;clear Q;obtain⟨q9,j3⟩:=eX (Z.1.size);rw[j3]at a6 j8 ⊢;change Blk (Z.alloc (.cells #[I pl,I pc] 32)) q9 32 [I pl,I pc]at a6;generalize Z.alloc (.cells #[I pl,I pc] 32)=l3 at *;have k8:q9≠w.1.size:=by omega
      have E:=O (And.intro ((a4.set1 0 (I pl)).set1 1 (I pc)) ((c9.setCell (p:=⟨w.1.size,0,none⟩) rl (I pl)).setCell (p:=⟨w.1.size,1,none⟩) rl (I pc)));have y0:=a6.cell 0;have y1:=a6.cell 1;have z0:=a4.cell 0;have z1:=a4.cell 1;have g0:=a4.frozen 0;have g1:=a4.frozen 1;clear a4 c9 a6;go_region;go_wp2_with fail;first
       |exact end_pa E.o.1 z z z z z ⟨E.o.2,none,0,z,⟨rl,by decide⟩,des_nil _⟩
       |exact end_pa E.o.1.drew z z z z z ⟨below_drewN E.o.2 1,none,0,z,⟨rl,by decide⟩,des_nil _⟩
    .obtain rfl:i=M:=by omega
     have k2:¬ (i:Int)< (i:Int):=by omega
     have J:=HD.o;rw[List.drop_eq_nil_of_le (by rw[HM.o];exact Nat.le_refl _)]at J;dsimp only[deDeep]at J;subst J;have E:=O (And.intro ((R.set1 0 (I 0)).set1 1 (I 0)) (And.intro ((a0.setCell (p:=⟨w.1.size,0,none⟩) rl (I 0)).setCell (p:=⟨w.1.size,1,none⟩) rl (I 0)) d2));have z0:=R.cell 0;have z1:=R.cell 1;have g0:=R.frozen 0;have g1:=R.frozen 1;clear R a0 d2;go_wp2_with fail;refine end_pa E.o.1 z z z z z ⟨E.o.2.1,a2,k0,?_,?_,?_⟩
     .dsimp only;rw[HM.o];rfl
     .dsimp only;rw[HM.o];exact e4
     .dsimp only;refine(E.o.2.2.keep (fun c hc _=>?_)).weak (fun c hc=> (by have f5:w.1.size+1<=c:=hc;omega:w.1.size<=c));have f5:w.1.size+1<=c:=hc;rw[Below.heap_setCell _ ⟨w.1.size,1,none⟩ _ c (show c≠w.1.size by omega),Below.heap_setCell _ ⟨w.1.size,0,none⟩ _ c (show c≠w.1.size by omega)]
 .rw[if_neg he]at F;have l6:(er !=0)=true:=by simpa using he
  subst F;have C:=R.alloc (.cells #[I G,I H] 32);have V:=b5.alloc b5.size (.cells #[I G,I H] 32);have W:=Blk.new X 32 [I G,I H];have E:=O (And.intro ((C.set1 0 (I G)).set1 1 (I H)) ((V.setCell (p:=⟨w.1.size,0,none⟩) rl (I G)).setCell (p:=⟨w.1.size,1,none⟩) rl (I H)));have Q:=O (And.intro C W);clear C V W R b5 d5;go_wp2_with fail;obtain⟨C,W⟩:=Q.o;obtain⟨q,hq⟩:=eX (X.1.size);rw[hq]at W i9 ⊢;change Blk (X.alloc (.cells #[I G,I H] 32)) q 32 [I G,I H]at W;clear Q;generalize X.alloc (.cells #[I G,I H] 32)=W2 at *;have l8:q≠w.1.size:=by omega
  have y0:=W.cell 0;have y1:=W.cell 1;have z0:=C.cell 0;have z1:=C.cell 1;have g0:=C.frozen 0;have g1:=C.frozen 1;clear C W;go_region;go_wp2_with fail;first
   |exact end_pa E.o.1 z z z z z ⟨E.o.2,none,0,z,⟨rl,by decide⟩,des_nil _⟩
   |exact end_pa E.o.1.drew z z z z z ⟨below_drewN E.o.2 1,none,0,z,⟨rl,by decide⟩,des_nil _⟩
end Go.Proofs.YtgppcdfgdaggjaaGreatDoor
