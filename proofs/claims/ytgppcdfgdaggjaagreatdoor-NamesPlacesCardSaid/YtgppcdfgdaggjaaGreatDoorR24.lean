/- Texts laid together. No condition but what each law says. -/
import Derived.Test.YtgppcdfgdaggjaaGreatDoorR22
set_option maxRecDepth 100000
set_option maxHeartbeats 16000000
namespace Go.Proofs.YtgppcdfgdaggjaaGreatDoor
open Go.RowKit Go.Maps
variable {b d g i j:Nat}{w:World}{s:ByteArray}
theorem under210:∃d,Tryz.prog.underlying 254=some d/\d.isRow=true:=by
 have h:(Tryz.prog.underlying 254).map (·.isRow)=some true:=by kernel_rfl
 obtain⟨d,j,g⟩:=Option.map_eq_some_iff.1 h;exact⟨d,j,g⟩
theorem info210:(Tryz.prog.info? 254).map (·.size)=some 6:=by kernel_rfl
theorem sm_any(hd:d<=24)(hB:BmOk (d+1)):SmOk d:=by
 intro s b S w a0 h d1;obtain⟨e7,f0,f4⟩:=under210;have f2:Tryz.prog.follows .mixedOrders=true:=by kernel_rfl
 obtain⟨k,sl,sc,Z,Y,V,J,sb,se,b6,e6,d3,b9⟩:=s;obtain⟨p0,-⟩:=h.parts;obtain⟨R,A⟩:∃R,stR isName (.mk k sl sc Z Y V J sb se b6 e6 d3 b9) d=R:=⟨_,z⟩;rw[A];unfold stR at A;have HH:=O h;by_cases g1:k<=0
 .have N:R=false:=by rw[<-A,decide_eq_false (p:=1<=k) (by omega)];simp
  subst N;clear h;go_enter Tryz.func147,Tryz.ntmps147;go_wp2_with fail;go_ret;exact⟨z,Below.refl _ w⟩
 by_cases f9:16<=k
 .have N:R=false:=by rw[<-A,decide_eq_false (p:=k<=15) (by omega)];simp
  subst N;clear h;go_enter Tryz.func147,Tryz.ntmps147;go_wp2_with fail;go_ret;exact⟨z,Below.refl _ w⟩
 obtain⟨j,rfl⟩:∃j:Nat,k=(j:Int):=⟨k.toNat,by omega⟩;have f1:1<=j:=by omega
 have f3:j<16:=by omega
 have a2:=a0 j f1 f3;unfold shC at a2;rw[decide_eq_true (p:=(1:Int)<=(j:Int)) (by omega),decide_eq_true (p:=(j:Int)<=15) (by omega),decide_eq_true hd]at A;simp only[Bool.and_self,Bool.true_and]at A;rw[show (if (j:Int)=3 then exR isName J 24 else exZ J)=(if decide ((j:Int)=3)=true then exR isName J 24 else exZ J) by simp]at A;obtain⟨b0,e0⟩:∃b,nName (j:Int)=b:=⟨_,z⟩;obtain⟨b1,e1⟩:∃b,nWith (j:Int)=b:=⟨_,z⟩;obtain⟨b2,e2⟩:∃b,nExpr (j:Int)=b:=⟨_,z⟩;obtain⟨b3,e3⟩:∃b,decide ((j:Int)=3)=b:=⟨_,z⟩;obtain⟨E,e4⟩:∃b,(decide ((j:Int)=4)||decide ((j:Int)=5))=b:=⟨_,z⟩;obtain⟨F,e5⟩:∃b,decide ((j:Int)=4)=b:=⟨_,z⟩;rw[e4]at a2 A;rw[e0,e1,e2,e3,e5]at a2 A;unfold St.nb at d1;obtain⟨d2,d7,d8,d6,d4,d0⟩:=d1
 obtain⟨m1,a9⟩:∃m,(if b0=true then isName Z else decide (Z=noB))=m:=⟨_,z⟩;obtain⟨m2,a7⟩:∃m,(if b1=true then isName Y else decide (Y=noB))=m:=⟨_,z⟩;obtain⟨m3,a4⟩:∃m,(if b3=true then exR isName J 24 else exZ J)=m:=⟨_,z⟩;obtain⟨m4,a5⟩:∃m,(if b2=true then exR isName V 24 else exZ V)=m:=⟨_,z⟩;obtain⟨mb,a8⟩:∃m,stsR isName sb (d+1)=m:=⟨_,z⟩;obtain⟨me,a6⟩:∃m,stsR isName se (d+1)=m:=⟨_,z⟩;rw[a9,a7,a4,a5,a8,a6]at A;have c1:∀W,Calls Tryz.prog 169 #[.string Z,.bool b0] W fun e w'=>e= .returned (.bool m1)/\Below W.1.size W w':=fun W=>by have:=nameMay_any Z b0 W d2;rwa [a9]at this
 have c2:∀W,Calls Tryz.prog 169 #[.string Y,.bool b1] W fun e w'=>e= .returned (.bool m2)/\Below W.1.size W w':=fun W=>by have:=nameMay_any Y b1 W d7;rwa [a7]at this
 have c3:∀W,ExAt W b (S+12) J->Calls Tryz.prog 170 #[.pointer (some ⟨b,S+12,none⟩),.bool b3] W fun e w'=>e= .returned (.bool m3)/\Below W.1.size W w':=fun W hx=>by have:=partMay_any J b3 b (S+12) W hx d6;rwa [a4]at this
 have c4:∀W,ExAt W b (S+5) V->Calls Tryz.prog 170 #[.pointer (some ⟨b,S+5,none⟩),.bool b2] W fun e w'=>e= .returned (.bool m4)/\Below W.1.size W w':=fun W hx=>by have:=partMay_any V b2 b (S+5) W hx d8;rwa [a5]at this
 have HC:=O (And.intro c1 (And.intro c2 (And.intro c3 c4)));have HM:=O (And.intro a8 a6);have c9:=O (And.intro d4 d0);have HR:=O A;have f6:=O a0;have f5:=O a2;have f7:(0:Int)<=(j:Int):=by omega
 have f8:(j:Int)<16:=by omega
 clear e0 e1 e2 e3 e4 e5 a9 a7 a4 a5 a8 a6 d8 d6 d4 d0 c1 c2 c3 c4 A h a0 a2 d2 d7;go_enter Tryz.func147,Tryz.ntmps147;refine wk fun C H=>?_;go_wp2_with fail;refine H.o _ _ ?_;clear H C;refine wk fun C H=>?_;go_wp2_with fail;refine H.o _ _ ?_;clear H C;refine wk fun C H=>?_
 go_wp2_with (first| ((with_reducible refine am _ (.load 254 _) ?_);refine wpList_load_mid z 254 (.tmp 22) z 1 (j*6) z [.bool b0,.bool b1,.bool b2,.bool b3,.bool E,.bool F] e7 f5.o f0 f4 info210 ?_)| ((with_reducible refine ah (.store 254 _ _) ?_);refine wpList_store_fresh info210 z (.tmp 5) (.tmp 23) z w [.bool false,.bool false,.bool false,.bool false,.bool false,.bool false] [.bool b0,.bool b1,.bool b2,.bool b3,.bool E,.bool F] z z z (by intro v hv;simp only[List.mem_cons,List.not_mem_nil,or_false]at hv;rcases hv with rfl|rfl|rfl|rfl|rfl|rfl<;>rfl) _ z z z ?_));obtain⟨q,X⟩:∃q,w.1.size=q:=⟨_,z⟩
 have a3:Blk (w.alloc (.cells #[.bool b0,.bool b1,.bool b2,.bool b3,.bool E,.bool F] 254)) q 254 [.bool b0,.bool b1,.bool b2,.bool b3,.bool E,.bool F]:=by rw[<-X];exact Blk.new w 254 _
 have d9:Below q w (w.alloc (.cells #[.bool b0,.bool b1,.bool b2,.bool b3,.bool E,.bool F] 254)):=by rw[<-X];exact(Below.refl _ w).alloc (Nat.le_refl _) _
 have b7:=HH.o.below (show Below w.1.size w (w.alloc (.cells #[.bool b0,.bool b1,.bool b2,.bool b3,.bool E,.bool F] 254)) from(Below.refl _ w).alloc (Nat.le_refl _) _);have b8:=f6.o.below (show Below w.1.size w (w.alloc (.cells #[.bool b0,.bool b1,.bool b2,.bool b3,.bool E,.bool F] 254)) from(Below.refl _ w).alloc (Nat.le_refl _) _);rw[X];have HP:=O p0;clear p0;generalize w.alloc (.cells #[.bool b0,.bool b1,.bool b2,.bool b3,.bool E,.bool F] 254)=D at *
 have hC:∀W,Below D.1.size D W->StAt W b S (.mk j sl sc Z Y V J sb se b6 e6 d3 b9)/\Blk W q 254 [.bool b0,.bool b1,.bool b2,.bool b3,.bool E,.bool F]/\Shs W/\Below q w W:=fun W U=>⟨b7.below U,a3.below U,b8.below U,d9.trans (U.mono (Nat.le_of_lt a3.lt))⟩;have Q:=O hC;clear b7 b8 a3 d9 hC;refine H.o _ _ ?_;clear H C;refine wk fun C H=>?_;go_wp2_with fail;refine wp_region_x [] (fun W=>Below D.1.size D W) f2 ?_;have g:Hid (Below D.1.size D D.drew):=O ((Below.refl _ D).drew);refine tb 0 g.o ?_;refine tb 1 g.o ?_;refine tb 2 g.o ?_;refine wpX_take2 3 (v:=?v3) z (by kernel_rfl) (by kernel_rfl) (by kernel_rfl) (by kernel_rfl) (by kernel_rfl) (fun _ _ _ h=>h) g.o (Or.inl ⟨by rfl,?h3⟩) ?_;case h3=> intro G K;obtain⟨-,-,-,p3,p4,-⟩:=(Q.o G K).1.parts;clear p4;clear K;go_simp;with_reducible rfl
 refine tb 4 g.o ?_;refine tg _ 5 g.o (fun G K=> (Q.o G K).2.1.cell 0) ?_;refine tn 6 fun C M=>?_;go_simp;refine(HC.o.1 _).mono ?_;rintro e G ⟨rfl,d5⟩;have g:Hid (Below D.1.size D G):=O (g.o.trans (d5.mono g.o.size));clear d5;cases m1
 .refine M _ _ (fun _=>g.o) ?_;clear M C;refine t0 7 g.o ?_;refine t0 8 g.o ?_;refine tu 9 g.o ?_;refine tu 10 g.o ?_;refine tu 11 g.o ?_;refine tu 12 g.o ?_;refine tu 13 g.o ?_;refine tu 14 g.o ?_;refine tu 15 g.o ?_;refine tu 16 g.o ?_;refine t0 17 g.o ?_;refine dn ?_;have N:R=false:=by rw[<-HR.o];simp
  subst N;have a1:=(Q.o G g.o).2.2.2;rw[<-X]at a1;go_wp2_with fail;go_ret;exact⟨z,a1⟩
 refine M _ _ (fun _=>g.o) ?_;clear M C;refine t0 7 g.o ?_;refine t0 8 g.o ?_;refine tb 9 g.o ?_;refine tb 10 g.o ?_;refine tb 11 g.o ?_;refine wpX_take2 12 (v:=?v12) z (by kernel_rfl) (by kernel_rfl) (by kernel_rfl) (by kernel_rfl) (by kernel_rfl) (fun _ _ _ h=>h) g.o (Or.inl ⟨by rfl,?h12⟩) ?_;case h12=> intro G K;obtain⟨-,-,-,p3,p4,-⟩:=(Q.o G K).1.parts;clear p3;clear K;go_simp;with_reducible rfl
 refine tb 13 g.o ?_;refine tg _ 14 g.o (fun G K=> (Q.o G K).2.1.cell 1) ?_;refine tn 15 fun C M=>?_;go_simp;refine(HC.o.2.1 _).mono ?_;rintro e W2 ⟨rfl,c8⟩;have g:Hid (Below D.1.size D W2):=O (g.o.trans (c8.mono g.o.size));clear c8;cases m2
 .refine M _ _ (fun _=>g.o) ?_;clear M C;refine t0 16 g.o ?_;refine t0 17 g.o ?_;refine dn ?_;have N:R=false:=by rw[<-HR.o];simp
  subst N;have a1:=(Q.o W2 g.o).2.2.2;rw[<-X]at a1;go_wp2_with fail;go_ret;exact⟨z,a1⟩
 refine M _ _ (fun _=>g.o) ?_;clear M C;refine t0 16 g.o ?_;refine t0 17 g.o ?_;refine dn ?_;have e8:R=(m3&& (m4&& ((E||decide (sb.length=0))&& ((F||decide (se.length=0))&& (mb&&me))))):=by rw[<-HR.o];simp
 subst e8;clear HR;obtain⟨hs,e9,a0,U⟩:=Q.o W2 g.o;rw[<-X]at U;go_wp2_with fail;exact H.o _ _ (sm_a hd hB hs e9 a0 U c9.o.1 c9.o.2 HM.o.1 HM.o.2 HC.o.2.2.1 HC.o.2.2.2)
theorem sm_all:∀ (m d:Nat),d+m=25->BmOk d:=by
 intro m;induction m with
 |zero=>
  intro d hd;exact bm_of_sm (by omega) (fun h=>absurd h (by omega))
 |succ m g=> intro d hd;exact bm_of_sm (by omega) (fun h=>sm_any h (g (d+1) (by omega)))
def DeAt(w:World)(b off:Nat)(d:De):Prop:=∃cs:List Value,w.rangeAt b off cs/\DeL (fun _=>True) w cs d
theorem DeAt.parts{k l c:Int}{n:Int}{body:List St}(h:DeAt w b j ⟨k,l,c,s,n,body⟩):
  w.cell? ⟨b,j,none⟩=some (I k)/\w.cell? ⟨b,j+3,none⟩=some (.string s)/\w.cell? ⟨b,j+4,none⟩=some (I n)/\∃a cap,w.cell? ⟨b,j+5,none⟩=some (.slice a body.length cap)/\SlAt w a cap body:=by
 obtain⟨cs,g,a,cap,rfl,A,C⟩:=h;exact⟨g 0 _ z,g 3 _ z,g 4 _ z,a,cap,g 5 _ z,A,C⟩
theorem DeAt.below{w':World}{d:De}(h:DeAt w b g d)(G:bL w w'):DeAt w' b g d:=by
 have C:∀ (b o:Nat) (v:Value),w.cell? ⟨b,o,none⟩=some v->w'.cell? ⟨b,o,none⟩=some v:=fun b o v A=>by rw[<-A];simp[World.cell?,G.block b (World.block_lt_of_cell? w _ A)]
 obtain⟨cs,H,a,cap,F,E,D⟩:=h;exact⟨cs,fun j v A=>C _ _ _ (H j v A),a,cap,F,E,StsL.keep (fun b o v _ A=>by rw[<-A];simp[World.cellF,G.block b (World.block_lt_of_cellF w A)]) D⟩
def DmOk(d:De):Prop:=∀ (b off:Nat) (w:World),Shs w->DeAt w b off d->d.nb->Calls Tryz.prog 78 #[.pointer (some ⟨b,off,none⟩)] w fun e w'=>e= .returned (.bool (deR isName d))/\Below w.1.size w w'
theorem dm_1{l c:Int}{n:Int}{body:List St}:DmOk ⟨1,l,c,s,n,body⟩:=by
 intro b a5 w F h J;obtain⟨R,A⟩:=eX (deR isName ⟨1,l,c,s,n,body⟩);rw[A];unfold deR at A;dsimp only at A;obtain⟨S,U,-⟩:=h.parts;obtain⟨m,W⟩:=eX (isName s);have N:=name_any s w J.1;rw[W]at A N;have X:=O (And.intro h (And.intro F J.2));obtain⟨H,K⟩:=eX (body.length);rw[K]at A;have Z:=O K;have E:=O A;clear A W h F J K;go_in;go_wp2_with fail;apply N.mono;rintro e w1 ⟨rfl,j⟩;obtain⟨h,F,a4⟩:=X.o;have C:=h.below j;have D:=F.below j;clear N S U h F X;obtain⟨S,U,p4,a,cap,Y,G⟩:=C.parts;rw[Z.o]at Y;cases m
 .have g:R=false:=by rw[<-E.o];simp
  subst g;clear C D G;go_wp2;go_ret;exact⟨z,j⟩
 rcases neOr H 0 with M|M
 .have a0:=M;have a3:0<H:=by omega
  have a1:(0:Int)< (H:Int):=by omega
  have g:R=false:=by rw[<-E.o];simp[a0]
  subst g;clear C D G;go_wp2;go_ret;exact⟨z,j⟩
 subst M;by_cases V: -2147483647<=n
 .by_cases Q:n<=2147483647
  .skip;have g:R=true:=by rw[<-E.o];simp[V,Q]
   subst g;clear C D G;go_wp2;go_ret;exact⟨z,j⟩
  .have a2:=decide_eq_false Q;have g:R=false:=by rw[<-E.o];simp[Q]
   subst g;clear C D G;go_wp2;go_ret;exact⟨z,j⟩
 .skip;have g:R=false:=by rw[<-E.o];simp[V]
  subst g;clear C D G;go_wp2;go_ret;exact⟨z,j⟩
theorem dm_2{l c:Int}{n:Int}{body:List St}:DmOk ⟨2,l,c,s,n,body⟩:=by
 intro b a5 w F h J;obtain⟨R,A⟩:=eX (deR isName ⟨2,l,c,s,n,body⟩);rw[A];unfold deR at A;dsimp only at A;obtain⟨S,U,-⟩:=h.parts;obtain⟨m,W⟩:=eX (isName s);have N:=name_any s w J.1;rw[W]at A N;have X:=O (And.intro h (And.intro F J.2));obtain⟨H,K⟩:=eX (body.length);rw[K]at A;have Z:=O K;have E:=O A;clear A W h F J K;go_in;go_wp2_with fail;apply N.mono;rintro e w1 ⟨rfl,j⟩;obtain⟨h,F,a4⟩:=X.o;have C:=h.below j;have D:=F.below j;clear N S U h F X;obtain⟨S,U,p4,a,cap,Y,G⟩:=C.parts;rw[Z.o]at Y;cases m
 .have g:R=false:=by rw[<-E.o];simp
  subst g;clear C D G;go_wp2;go_ret;exact⟨z,j⟩
 rcases neOr H 0 with M|M
 .have a0:=M;have a3:0<H:=by omega
  have a1:(0:Int)< (H:Int):=by omega
  have g:R=false:=by rw[<-E.o];simp[a0]
  subst g;clear C D G;go_wp2;go_ret;exact⟨z,j⟩
 subst M;by_cases V:0<=n
 .by_cases Q:n<=2147483647
  .skip;have g:R=true:=by rw[<-E.o];simp[V,Q]
   subst g;clear C D G;go_wp2;go_ret;exact⟨z,j⟩
  .have a2:=decide_eq_false Q;have g:R=false:=by rw[<-E.o];simp[Q]
   subst g;clear C D G;go_wp2;go_ret;exact⟨z,j⟩
 .skip;have g:R=false:=by rw[<-E.o];simp[V]
  subst g;clear C D G;go_wp2;go_ret;exact⟨z,j⟩
theorem dm_3{l c:Int}{n:Int}{body:List St}:DmOk ⟨3,l,c,s,n,body⟩:=by
 intro b a4 w D h K;obtain⟨R,j⟩:=eX (deR isName ⟨3,l,c,s,n,body⟩);rw[j];unfold deR at j;dsimp only at j;obtain⟨S,U,-⟩:=h.parts;obtain⟨m,V⟩:=eX (isName s);have Q:=name_any s w K.1;rw[V]at j Q;have W:=O (And.intro h (And.intro D K.2));obtain⟨G,M⟩:=eX (body.length);rw[M]at j;have Y:=O M;have H:=O j;clear j V h D K M;go_in;go_wp2_with fail;apply Q.mono;rintro e w1 ⟨rfl,A⟩;obtain⟨h,D,a2⟩:=W.o;have C:=h.below A;have E:=D.below A;clear Q S U h D W;obtain⟨S,U,p4,a,cap,X,J⟩:=C.parts;rw[Y.o]at X;cases m
 .have g:R=false:=by rw[<-H.o];simp
  subst g;clear C E J;go_wp2;go_ret;exact⟨z,A⟩
 rcases neOr G 0 with N|N
 .have Z:=N;have a1:0<G:=by omega
  have a0:(0:Int)< (G:Int):=by omega
  have g:R=false:=by rw[<-H.o];simp[Z]
  subst g;clear C E J;go_wp2;go_ret;exact⟨z,A⟩
 subst N;rcases neOr n 0 with F|F
 .have a3:(n==0)=false:=by simpa using F
  have g:R=false:=by rw[<-H.o];simp[F]
  subst g;clear C E J;go_wp2;go_ret;exact⟨z,A⟩
 subst F;have g:R=true:=by rw[<-H.o];simp
 subst g;clear C E J;go_wp2;go_ret;exact⟨z,A⟩
theorem dm_4{l c:Int}{n:Int}{body:List St}:DmOk ⟨4,l,c,s,n,body⟩:=by
 intro b a4 w D h K;obtain⟨R,j⟩:=eX (deR isName ⟨4,l,c,s,n,body⟩);rw[j];unfold deR at j;dsimp only at j;obtain⟨S,U,-⟩:=h.parts;obtain⟨m,V⟩:=eX (isName s);have Q:=name_any s w K.1;rw[V]at j Q;have W:=O (And.intro h (And.intro D K.2));obtain⟨G,M⟩:=eX (body.length);rw[M]at j;have Y:=O M;have H:=O j;clear j V h D K M;go_in;go_wp2_with fail;apply Q.mono;rintro e w1 ⟨rfl,A⟩;obtain⟨h,D,a2⟩:=W.o;have C:=h.below A;have E:=D.below A;clear Q S U h D W;obtain⟨S,U,p4,a,cap,X,J⟩:=C.parts;rw[Y.o]at X;cases m
 .have g:R=false:=by rw[<-H.o];simp
  subst g;clear C E J;go_wp2;go_ret;exact⟨z,A⟩
 rcases neOr G 0 with N|N
 .have Z:=N;have a1:0<G:=by omega
  have a0:(0:Int)< (G:Int):=by omega
  have g:R=false:=by rw[<-H.o];simp[Z]
  subst g;clear C E J;go_wp2;go_ret;exact⟨z,A⟩
 subst N;rcases neOr n 0 with F|F
 .have a3:(n==0)=false:=by simpa using F
  have g:R=false:=by rw[<-H.o];simp[F]
  subst g;clear C E J;go_wp2;go_ret;exact⟨z,A⟩
 subst F;have g:R=true:=by rw[<-H.o];simp
 subst g;clear C E J;go_wp2;go_ret;exact⟨z,A⟩
theorem dm_5{l c:Int}{n:Int}{body:List St}:DmOk ⟨5,l,c,s,n,body⟩:=by
 intro b a5 w F h J;obtain⟨R,A⟩:=eX (deR isName ⟨5,l,c,s,n,body⟩);rw[A];unfold deR at A;dsimp only at A;obtain⟨S,U,-⟩:=h.parts;obtain⟨m,W⟩:=eX (isName s);have N:=name_any s w J.1;rw[W]at A N;have X:=O (And.intro h (And.intro F J.2));obtain⟨H,K⟩:=eX (body.length);rw[K]at A;have Z:=O K;have E:=O A;clear A W h F J K;go_in;go_wp2_with fail;apply N.mono;rintro e w1 ⟨rfl,j⟩;obtain⟨h,F,a4⟩:=X.o;have C:=h.below j;have D:=F.below j;clear N S U h F X;obtain⟨S,U,p4,a,cap,Y,G⟩:=C.parts;rw[Z.o]at Y;cases m
 .have g:R=false:=by rw[<-E.o];simp
  subst g;clear C D G;go_wp2;go_ret;exact⟨z,j⟩
 rcases neOr H 0 with M|M
 .have a0:=M;have a3:0<H:=by omega
  have a1:(0:Int)< (H:Int):=by omega
  have g:R=false:=by rw[<-E.o];simp[a0]
  subst g;clear C D G;go_wp2;go_ret;exact⟨z,j⟩
 subst M;by_cases V:0<=n
 .by_cases Q:n<=2147483647
  .skip;have g:R=true:=by rw[<-E.o];simp[V,Q]
   subst g;clear C D G;go_wp2;go_ret;exact⟨z,j⟩
  .have a2:=decide_eq_false Q;have g:R=false:=by rw[<-E.o];simp[Q]
   subst g;clear C D G;go_wp2;go_ret;exact⟨z,j⟩
 .skip;have g:R=false:=by rw[<-E.o];simp[V]
  subst g;clear C D G;go_wp2;go_ret;exact⟨z,j⟩
theorem dm_6{l c:Int}{n:Int}{body:List St}:DmOk ⟨6,l,c,s,n,body⟩:=by
 intro b a3 w A h J;obtain⟨R,j⟩:=eX (deR isName ⟨6,l,c,s,n,body⟩);rw[j];unfold deR at j;dsimp only at j;obtain⟨S,V,-⟩:=h.parts;obtain⟨m,Y⟩:=eX (isName s);have N:=name_any s w J.1;rw[Y]at j N;have Z:=O (And.intro h (And.intro A J.2));obtain⟨nB,K⟩:=eX (body.length);rw[K]at j;have U:=O K;have G:=O j;clear j Y h A J K;go_in;go_wp2_with fail;apply N.mono;rintro e w1 ⟨rfl,g⟩;obtain⟨h,A,X⟩:=Z.o;have F:=h.below g;have C:=A.below g;clear N S V h A Z;obtain⟨S,V,p4,a,cap,p5,H⟩:=F.parts;rw[U.o]at p5;cases m
 .have Q:R=false:=by rw[<-G.o];simp
  subst Q;clear F C H;go_wp2;go_ret;exact⟨z,g⟩
 rcases neOr n 0 with D|D
 .have a2:(n==0)=false:=by simpa using D
  have Q:R=false:=by rw[<-G.o];simp[D]
  subst Q;clear F C H;go_wp2;go_ret;exact⟨z,g⟩
 subst D;obtain⟨mb,M⟩:=eX (stsR isName body 1);have E:=sm_all 24 1 (by decide) body a cap w1 C H X;rw[M,U.o]at E;have e1:((1:Nat):Int)=1:=z;rw[e1]at E;have a1:R=mb:=by rw[<-G.o,M];simp
 subst a1;clear F C H M G e1 X;go_wp2_with fail;apply E.mono;rintro e w2 ⟨rfl,W⟩;have a0:=g.trans (W.mono g.size);clear E W g;go_wp2;go_ret;exact⟨z,a0⟩
theorem dm_other{k l c:Int}{n:Int}{body:List St}(X:k≠1)(U:k≠2)(h3:k≠3)(W:k≠4)(Z:k≠5)(F:k≠6):DmOk ⟨k,l,c,s,n,body⟩:=by
 intro b a4 w C h H;obtain⟨R,g⟩:=eX (deR isName ⟨k,l,c,s,n,body⟩);rw[g];unfold deR at g;dsimp only at g;obtain⟨S,V,-⟩:=h.parts;obtain⟨m,Y⟩:=eX (isName s);have M:=name_any s w H.1;rw[Y]at g M;have HH:=O (And.intro h (And.intro C H.2));obtain⟨D,J⟩:=eX (body.length);rw[J]at g;have HN:=O J;have N:=O g;clear g Y h C H J;have k6:(k !=6)=true:=by simpa using F
 have e1:(k==1)=false:=by simpa using X
 have e2:(k==2)=false:=by simpa using U
 have e3:(k==3)=false:=by simpa using h3
 have e4:(k==4)=false:=by simpa using W
 have e5:(k==5)=false:=by simpa using Z
 have e6:(k==6)=false:=by simpa using F
 go_in;go_wp2_with fail;apply M.mono;rintro e w1 ⟨rfl,j⟩;obtain⟨h,C,a3⟩:=HH.o;have E:=h.below j;have G:=C.below j;clear M S V h C HH;obtain⟨S,V,p4,a,cap,p5,Q⟩:=E.parts;rw[HN.o]at p5;cases m
 .have A:R=false:=by rw[<-N.o];simp
  subst A;clear E G Q;go_wp2;go_ret;exact⟨z,j⟩
 rcases neOr D 0 with K|K
 .have a0:=K;have a2:0<D:=by omega
  have a1:(0:Int)< (D:Int):=by omega
  have A:R=false:=by rw[<-N.o];simp[F,a0]
  subst A;clear E G Q;go_wp2;go_ret;exact⟨z,j⟩
 subst K;have A:R=false:=by rw[<-N.o];simp[X,U,h3,W,Z,F]
 subst A;clear E G Q;go_wp2;go_ret;exact⟨z,j⟩
theorem declMay_any(d:De):DmOk d:=by
 obtain⟨k,l,c,s,n,body⟩:=d;by_cases A:k=1
 .subst A;exact dm_1
 by_cases w:k=2
 .subst w;exact dm_2
 by_cases j:k=3
 .subst j;exact dm_3
 by_cases g:k=4
 .subst g;exact dm_4
 by_cases D:k=5
 .subst D;exact dm_5
 by_cases C:k=6
 .subst C;exact dm_6
 exact dm_other A w j g D C
theorem desR_drop{nm:ByteArray->Bool}{l:List De}(h:i<l.length):desR nm (l.drop i)=(deR nm (l.getD i default)&&desR nm (l.drop (i+1))):=by unfold desR;rw[List.drop_eq_getElem_cons h,List.all_cons];simp[List.getD_eq_getElem?_getD,h]
theorem check_any(l:List De)(a:Option Addr)(cap:Nat)(w:World)(S:Roomy l.length cap)(a3:Shs w)(h:DesL (fun _=>True) w a l)(Z:∀d∈l,d.nb):
  Calls Tryz.prog 34 #[.slice a l.length cap] w fun e w'=>e= .returned (I (if desR isName l=true then 0 else 2))/\bL w w':=by
 obtain⟨R,A⟩:=eX (desR isName (l.drop 0));rw[show desR isName l=R from A];obtain⟨g,Q⟩:=eX (l.length);rw[Q]at S ⊢;have K:=O Q;have E:=O A;have HB:=O Z;have C:=O (And.intro (Below.refl w.1.size w) (And.intro h a3));obtain⟨v,H⟩:∃v:Int,(if R=true then 0 else 2)=v:=⟨_,z⟩;rw[H];have X:=O H;clear Q A Z h a3 H;go_in;go_wp2;go_loopg [6] g (fun x iv wr=>∃i:Nat,i<=g/\x=g-i/\iv=I i/\Hid (bL w wr/\DesL (fun _=>True) wr a l/\Shs wr)/\Hid (desR isName (l.drop i)=R));case atStart=>exact⟨0,Nat.zero_le _,z,z,C,E⟩
 case round=>
  clear C E;obtain⟨i,hi,rfl,rfl,C,E⟩:=hrel;obtain⟨J,D,F⟩:=C.o;by_cases U:i<g
  .have a7:(i:Int)< (g:Int):=by omega
   have a9:(0:Int)<=(i:Int):=by omega
   have b4:(i:Int)+1<=9223372036854775807:=by have D:=S.1;have h2:=S.2;omega
   have A:=E.o;rw[desR_drop (by rw[K.o];exact U)]at A;obtain⟨b2,a5,cs,rfl,-,Y,a4⟩:=D i (by rw[K.o];exact U);have a0:l.getD i default∈l:=by rw[List.getD_eq_getElem?_getD,List.getElem?_eq_getElem (by rw[K.o];exact U)];exact List.getElem_mem _
   have M:=declMay_any (l.getD i default) b2 (a5+i*6) wr F ⟨cs,fun j v H=>World.cellF_cell (Y j v H),a4⟩ (HB.o _ a0);obtain⟨m,hm⟩:=eX (deR isName (l.getD i default));rw[hm]at M A;have N:=O A;clear Y a4 hm A E a0;go_wp2_with fail;refine M.mono ?_;rintro e w2 ⟨rfl,G⟩;have W:=J.trans (G.mono J.size);cases m
   .have a2:R=false:=N.o.symm;have V:v=2:=by rw[<-X.o,a2];rfl
    subst V;clear C M D J G F a2 N;go_wp2_with fail;go_ret;exact⟨z,W⟩
   .have a6:Hid (desR isName (l.drop (i+1))=R):=O N.o;have a8:=O (And.intro W (And.intro (DesL.below D G) (F.below G)));clear C M D J G W N F;go_wp2_with fail;go_roundg (g- (i+1));case measure=>omega
    case rel=>exact⟨i+1,by omega,z,z,a8,a6⟩
  .obtain rfl:i=g:=by omega
   have a7:¬ (i:Int)< (i:Int):=by omega
   have a1:R=true:=by rw[<-E.o,List.drop_eq_nil_of_le (by rw[K.o];exact Nat.le_refl _)];rfl
   have V:v=0:=by rw[<-X.o,a1];rfl
   subst V;clear D C F a1;go_wp2;go_ret;exact⟨z,J⟩
end Go.Proofs.YtgppcdfgdaggjaaGreatDoor
