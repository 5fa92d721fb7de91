/- Texts laid together. No condition but what each law says. -/
import Derived.Test.YtgppcdfgdaggjaaGreatDoorN17
import Derived.Test.YtgppcdfgdaggjaaGreatDoorN14
set_option maxRecDepth 100000
set_option maxHeartbeats 16000000
namespace Go.Proofs.YtgppcdfgdaggjaaGreatDoor
open Go.RowKit Go.Maps Go.Proofs.Tryz
open Go renaming World→Fk,Value→Fr,Program→Hu,Calls→Jq,bodyPost→Gb,wpQuiet_nil→Hi,wpList_load_mid→Gn
open Go.World renaming block_lt_of_cell?→FF,cell?→FI
open Go.ByteArray renaming toList_eq→Iy
open Go.RowKit.Below renaming refl→FB
open Bool renaming false_ne_true→FY,false_and→HD,true_and→Gx,and_false→If,false_eq_true→FN
open Go.RowKit renaming Below→FM
open And renaming intro→EQ
open Go.Code renaming wp→FR
open List renaming drop_eq_nil_of_le→Gw,drop_succ_cons→Gv,drop_zero→GD,take_succ_cons→Gu,take_zero→GL,getElem?_eq_getElem→FC,getElem?_cons_succ→FH,getElem?_cons_zero→FE,drop_eq_getElem_cons→FZ,getD_eq_getElem?_getD→FD,getElem_mem→Gy
open Nat renaming le_refl→FL,zero_le→FX,zero_add→GE
open Go.Value renaming int→Gr
variable {V W w w0:Fk}{a:Option Addr}{b d g i j:Nat}{s s6 s7 t:ByteArray}{p0 p1 p2 p3:Int}{v0 v1 v2 v3:Fr}{l2:List Fr}{e0 e1:Ex}{T0:List St}{z0 z1 z2 z3 z4 z5 z6:Bool}
def dT(w:Fk)(a:Option Addr)(l:List Ex):Prop:=ch (fun _=>True) w a 0 l
theorem dT.at{l:List Ex}(h:dT w a l)(F:j<l.length):∃b g cs,a=some (ad b g)/\w.rangeAt b (g+j*7) cs/\ExL (fun _=>True) w cs (l.getD j aT):=by obtain⟨b,g,cs,D,-,A,C⟩:=ch.at h j F;exact⟨b,g,cs,D,fun t v E=>by simpa using A t v E,C⟩
theorem ExL.below{w':Fk}{cs:List Fr}{x:Ex}(h:ExL (fun _=>True) w cs x)(j:bL w w'):ExL (fun _=>True) w' cs x:=
 ExL.keep (fun b o v _ g=>by rw[<-g];simp[FI,j.block b (FF w _ g)]) h
theorem dT.below{w':Fk}{l:List Ex}(h:dT w a l)(j:bL w w'):dT w' a l:=
 ch.keep (fun b o v _ g=>by rw[<-g];simp[FI,j.block b (FF w _ g)]) h
theorem cG(h:s.toList=t.toList):s=t:=by rw[Iy,Iy]at h;exact ByteArray.ext (Array.toList_inj.1 h)
theorem bq{g:Type}[DecidableEq g](a b:g):a≠b∨a=b:=(Decidable.em (a=b)).symm
theorem kT{P:Hu}{o:Oper}{a:Act}{w:Act->Prop}(h:o.quiet P a (fun w'=>w'=W) w):o.still P a W w:=by
 let ⟨v,A,j⟩:=h
 have g:=A W z;unfold Oper.quietAt at g;unfold Oper.still;generalize (execOp a.eval o).run P W=r at g;unfold Oper.quietUpon at g;unfold Oper.stillUpon;split at g
 .obtain⟨rfl,rfl⟩:=g;exact⟨z,j⟩
 .obtain⟨rfl,rfl⟩:=g;exact⟨z,j⟩
 .exact⟨g.1,v,g.2,j⟩
 .exact g.elim
theorem ee{P:Hu}{j:Array Oper}{w:Act->Prop}:∀ (l:List Oper) (a:Act),wpQuiet P j (fun w'=>w'=W) w l a->wpStill P j W w l a
 | [],_,h=>h
 |o::rest,a,h=>by
  unfold wpQuiet at h
  unfold wpStill
  split
  .rename_i g
   rw[aD g]at h
   exact Oper.still_mono (fun a h=>ee rest a h) (kT h)
  .rename_i g
   rw[am g]at h
   exact ee rest _ h
theorem ax{P:Hu}{id:Nat}{g:Exit->Act->Fk->Prop}{a:Act}{l:List Oper}(n:Nat)(j:P.follows .mixedOrders=true)(A:Region.lexTailB .any l.toArray n=true)
  (h:wpQuiet P l.toArray (fun w'=>w'=w.drew) (fun C=>wpList P l.toArray g (l.drop n) C w.drew) (l.take n) a):(Code.region id l.toArray true).wp P g a w:=
 wp_region_still_tail n j A (ee _ _ h)
theorem aS{P:Hu}{j:Array Oper}{C:List Oper}{g:Oper}{a:Act}{A:Exit->Act->Fk->Prop}(G:Region.wanted g (yielded j a.tmps)=true)(ty:TypeId)(x:Operand)(J:g.op= .load ty x)
  (b o:Nat)(H:a.eval x= .pointer (some (ad b o)))(cs:List Fr)(d:TypeDesc)(F:w.rangeAt b o cs)(D:P.underlying ty=some d)(hd:d.isRow=true)(K:(P.info? ty).map (·.size)=some cs.length)
  (h:wpList P j A C (a.put g.dst (.agg cs.toArray)) w):wpList P j A (g::C) a w:=
 wpList_step fun M E=>by rw[aD G];exact wp_load_mid ty x J b o H cs d F D hd K (E _ _ h)
theorem gy.below{w':Fk}{s:St}(h:gy w b g s)(F:bL w w'):gy w' b g s:=by
 let ⟨cs,E,D⟩:=h
 have C:∀ (b o:Nat) (v:Fr),w.cell? (ad b o)=some v->w'.cell? (ad b o)=some v:=fun b o v A=>by rw[<-A];simp[FI,F.block b (FF w _ A)]
 exact⟨cs,fun j v A=>C _ _ _ (E j v A),bX.keep (fun b o v _ A=>C b o v A) D⟩
theorem ExL.at0{x:Ex}(h:dY w b j x):∃cs:List Fr,w.rangeAt b j cs/\cs.length=7/\ExL (fun _=>True) w cs x:=by
 let ⟨cs,A,g⟩:=h
 exact⟨cs,A,g.cells.1,g⟩
theorem bc:aq.toList=[]:=by unfold aq;rw[Iy]
def dy(k li co:Int)(s:ByteArray)(n:Int)(v:Fr):List Fr:=[.int .i64 k,.int .i64 li,.int .i64 co,.string s,.int .i64 n,v]
theorem bX.below{w':Fk}{cs:List Fr}{s:St}(h:bX (fun _=>True) w cs s)(j:bL w w'):bX (fun _=>True) w' cs s:=
 bX.keep (fun b o v _ g=>by rw[<-g];simp[FI,j.block b (FF w _ g)]) h
theorem cQ.below{w':Fk}{l:List De}(h:cQ (fun _=>True) w a l)(j:bL w w'):cQ (fun _=>True) w' a l:=
 h.keep (fun b o v _ g=>by rw[<-g];simp[FI,j.block b (FF w _ g)])
theorem eA(s:ByteArray):s.toList.isEmpty=decide (s=aq):=by
 by_cases h:s=aq
 .subst h;rw[bc];rfl
 .rw[dv h];cases g:s.toList
  .exact absurd (cG (g.trans bc.symm)) h
  .rfl
theorem aZ(s:ByteArray)(nd:Bool)(w:Fk)(A:s.size<=9223372036854775807):Jq prog 169 #[.string s,.bool nd] w fun e w'=>e= .returned (.bool (if nd=true then ah s else decide (s=aq)))/\bL w w':=by
 cases nd
 .rw[am FY,<-eA];go_in;go_wp2;go_ret;exact⟨z,FB _ w⟩
 .rw[aD rfl];have j:=eq s w A;go_in;go_wp2_with fail;apply j.mono;rintro e w1 ⟨rfl,g⟩;go_wp2;go_ret;exact⟨z,g⟩
theorem dY.below{w':Fk}{x:Ex}(h:dY w b g x)(A:bL w w'):dY w' b g x:=by
 let ⟨cs,D,C⟩:=h
 exact⟨cs,fun j v E=> (by have:=D j v E;rw[<-this];simp[FI,A.block b (FF w _ this)]),C.below A⟩
theorem dY.all{k n:Int}{sl:Int}{lo:Bool}{args:List Ex}(h:dY w b j (.mk k n s sl lo p0 args)):
  w.cell? (ad b j)=some (I k)/\w.cell? (ad b (j+1))=some (I n)/\w.cell? (ad b (j+2))=some (.string s)/\w.cell? (ad b (j+5))=some (I p0):=by
 let ⟨cs,g,A⟩:=h
 unfold ExL at A;obtain⟨a,cap,rfl,-⟩:=A;exact⟨g 0 _ z,g 1 _ z,g 2 _ z,g 5 _ z⟩
def mT(d:Nat):Prop:=∀ (x:Ex) (b off:Nat) (w:Fk),dY w b off x->x.nb->Jq prog 187 #[.pointer (some ⟨b,off,none⟩),.int .i64 (d:Int)] w fun e w'=>e= .returned (.bool (de ah x d))/\FM w.1.size w w'
theorem hb{ar:Nat}{k n:Int}{sl:Int}{lo:Bool}{args:List Ex}(hd:d<=24)(b5:ar<=2)(ih:mT d)(N:bL w W)(h:dY W b g (.mk k n s sl lo p0 args))(Z:Ex.DJ args)(hU:l2.length=113:=by rfl):
  FR prog (Jp 5 (f187.body.getD .skip)) (Gb prog f187 (fun e w'=>e= .returned (.bool (decide (args.length=ar)&&di ah args d))/\bL w w')) ⟨(.pointer (some (ad b g))::I ((d+1:Nat):Int)::v0::v1::v2::I ar::l2).toArray,[]⟩ W:=by
 revert l2;apply aN;iterate 113 intro _
 change FR _ _ _ _ _;obtain⟨a,cap,c6,a7,-⟩:=h.args;let ⟨A,X⟩:=eX (args.length)
 let ⟨R,C⟩:=eX (di ah (args.drop 0) d)
 rw[show di ah args d=R from C];rw[X]at c6 a7 ⊢;have M:=O X;have E:=O C;have D:=O (EQ N h);have HB:=O Z;clear X C h Z;rcases bq A ar with U|U
 .rw[dv U,HD];conv in (Jp _ _)=>whnf
  have b4:¬ (A:Int)=(ar:Int):=by omega
  go_wp2;go_ret;exact⟨z,N⟩
 subst U;rw[eP rfl,Gx];conv in (Jp _ _)=>whnf
 clear N;go_wp2;clear c6;go_loopg [105] A (fun x iv wr=>∃i:Nat,i<=A/\x=A-i/\iv=I i/\Hid (bL w wr/\dY wr b g (.mk k n s sl lo p0 args))/\Hid (di ah (args.drop i) d=R));case atStart=>exact⟨0,FX _,z,z,D,E⟩
 case round=>
  clear D E;obtain⟨i,hi,rfl,rfl,D,E⟩:=hrel;let ⟨F,G⟩:=D
  let ⟨a1,b8,c6,a8,H⟩:=G.args
  rw[M.o]at c6 a8 H;by_cases V:i<A
  .have a6:(i:Int)< (A:Int):=by omega
   have b9:(0:Int)<=(i:Int):=by omega
   have b6:(i:Int)+1<=9223372036854775807:=by omega
   obtain⟨b2,a4,rfl,Y⟩:=H i V;have a0:=Ex.DM HB (j:=i) (by rw[M.o];exact V);have K:=ih (args.getD i aT) b2 (a4+i*7) wr Y a0;have b7:(((d+1:Nat):Int)-1)=(d:Int):=by omega
   have C:=E.o;rw[lw (by rw[M.o];exact V)]at C;let ⟨m,hm⟩:=eX (de ah (args.getD i aT) d)
   rw[hm]at K C;have Q:=O C;clear Y a0 H hm C E;go_wp2_with fail;apply K.mono;rintro e w2 ⟨rfl,J⟩;have S:=F.trans (J.mono F.size);cases m
   .have a3:R=false:=Q.symm;subst a3;clear D K c6 G F J;go_wp2;go_ret;exact⟨z,S⟩
   .have a9:Hid (di ah (args.drop (i+1)) d=R):=O Q;have a2:=O (EQ S (G.below J));clear D K c6 G F J S Q;go_wp2;go_roundg (A- (i+1));case measure=>omega
    case rel=>exact⟨i+1,by omega,z,z,a2,a9⟩
  .obtain rfl:i=A:=by omega
   have a6:¬ (i:Int)< (i:Int):=by omega
   have a5:R=true:=by rw[<-E.o,Gw (by rw[M.o];exact FL _)];rfl
   subst a5;clear G D H c6;go_wp2;go_ret;exact⟨z,F⟩
theorem Bk{n:Int}{sl:Int}{lo:Bool}{args:List Ex}(hd:d<=24)(X:mT d)(h:dY w b j (.mk 1 n s sl lo p0 args))(S:s.size<=9223372036854775807)(Y:Ex.DJ args):
  Jq prog 187 #[.pointer (some (ad b j)),I ((d+1:Nat):Int)] w fun e w'=>e= .returned (.bool (de ah (.mk 1 n s sl lo p0 args) (d+1)))/\bL w w':=by
 let ⟨R,H⟩:=eX (de ah (.mk 1 n s sl lo p0 args) (d+1))
 rw[H];rw[db]at H;have a2:¬ ((d+1:Nat):Int)<1:=by omega
 let ⟨c0,c1,c2,c5⟩:=h.all
 rcases bq p0 0 with N|N
 .have K:R=false:=by rw[<-H];simp[N]
  have Z:(p0 !=0)=true:=by simpa using N
  subst K;go_in;go_wp2;go_ret;exact⟨z,FB _ w⟩
 subst N;let ⟨mn,J⟩:=eX (decide (s=aq))
 have Q:=O J;cases mn
 .have K:R=false:=by rw[<-H];have W:=of_decide_eq_false J;simp[W]
  subst K;clear J;have F:=aZ s false w.drew S;have C:bL w w.drew:=(FB _ w).drew;go_in;refine wk fun A g=>?_;go_wp2;apply g;clear g A;refine wk fun A g=>?_;go_wp2;apply g;clear g A;refine wk fun A g=>?_;go_wp2;apply ax 16 (by kernel_rfl) (by kernel_rfl);simp only[Gu,GL,Gv,GD];repeat (go_big_quiet_step (fail))
  apply Hi;go_wp2_with fail;apply F.mono;rintro e w1 ⟨rfl,D⟩;have E:=C.trans (D.mono C.size);have G:=h.below E;clear F C D c0 c1 c2 c5;simp only[FN,if_false,Q.o];go_wp2;go_ret;exact⟨z,E⟩
 by_cases a0:n<0
 .have K:R=false:=by
   rw[<-H];have M:bs 1 n 0=false:=by unfold bs;rw[aD rfl];rw[dv (by omega),HD]
   simp[M]
  subst K;clear J;have F:=aZ s false w.drew S;have C:bL w w.drew:=(FB _ w).drew;go_in;refine wk fun A g=>?_;go_wp2;apply g;clear g A;refine wk fun A g=>?_;go_wp2;apply g;clear g A;refine wk fun A g=>?_;go_wp2;apply ax 16 (by kernel_rfl) (by kernel_rfl);simp only[Gu,GL,Gv,GD];repeat (go_big_quiet_step (fail))
  apply Hi;go_wp2_with fail;apply F.mono;rintro e w1 ⟨rfl,D⟩;have E:=C.trans (D.mono C.size);have G:=h.below E;clear F C D c0 c1 c2 c5;simp only[FN,if_false,Q.o];go_wp2;apply g;clear g A;refine wk fun A g=>?_;go_wp2;apply g;clear g A;let ⟨c0,c1,c2,c5⟩:=G.all
  clear h G;go_wp2;go_ret;exact⟨z,E⟩
 by_cases a1:2147483647<n
 .have K:R=false:=by
   rw[<-H];have M:bs 1 n 0=false:=by unfold bs;rw[aD rfl];rw[dv (p:=n<=2147483647) (by omega),If]
   simp[M]
  subst K;clear J;have F:=aZ s false w.drew S;have C:bL w w.drew:=(FB _ w).drew;go_in;refine wk fun A g=>?_;go_wp2;apply g;clear g A;refine wk fun A g=>?_;go_wp2;apply g;clear g A;refine wk fun A g=>?_;go_wp2;apply ax 16 (by kernel_rfl) (by kernel_rfl);simp only[Gu,GL,Gv,GD];repeat (go_big_quiet_step (fail))
  apply Hi;go_wp2_with fail;apply F.mono;rintro e w1 ⟨rfl,D⟩;have E:=C.trans (D.mono C.size);have G:=h.below E;clear F C D c0 c1 c2 c5;simp only[FN,if_false,Q.o];go_wp2;apply g;clear g A;refine wk fun A g=>?_;go_wp2;apply g;clear g A;let ⟨c0,c1,c2,c5⟩:=G.all
  clear h G;go_wp2;go_ret;exact⟨z,E⟩
 have V:R=(decide (args.length=0)&&di ah args d):=by
  rw[<-H];have M:bs 1 n 0=true:=by unfold bs;rw[aD rfl,eP (p:=0<=n) (by omega),eP (p:=n<=2147483647) (by omega)];rfl
  have U:=of_decide_eq_true J;simp[M,dR,U]
 subst V;clear J H;have F:=aZ s false w.drew S;have C:bL w w.drew:=(FB _ w).drew;go_in;refine wk fun A g=>?_;go_wp2;apply g;clear g A;refine wk fun A g=>?_;go_wp2;apply g;clear g A;refine wk fun A g=>?_;go_wp2;apply ax 16 (by kernel_rfl) (by kernel_rfl);simp only[Gu,GL,Gv,GD];repeat (go_big_quiet_step (fail))
 apply Hi;go_wp2_with fail;apply F.mono;rintro e w1 ⟨rfl,D⟩;have E:=C.trans (D.mono C.size);have G:=h.below E;clear F C D c0 c1 c2 c5;simp only[FN,if_false,Q.o];go_wp2;apply g;clear g A;refine wk fun A g=>?_;go_wp2;apply g;clear g A;let ⟨c0,c1,c2,c5⟩:=G.all
 refine wk fun A g=>?_;go_wp2;exact g _ _ (hb (ar:=0) hd (by decide) X E G Y)
theorem BZ{n:Int}{sl:Int}{lo:Bool}{args:List Ex}(hd:d<=24)(X:mT d)(h:dY w b j (.mk 2 n s sl lo p0 args))(S:s.size<=9223372036854775807)(Y:Ex.DJ args):
  Jq prog 187 #[.pointer (some (ad b j)),I ((d+1:Nat):Int)] w fun e w'=>e= .returned (.bool (de ah (.mk 2 n s sl lo p0 args) (d+1)))/\bL w w':=by
 let ⟨R,D⟩:=eX (de ah (.mk 2 n s sl lo p0 args) (d+1))
 rw[D];rw[db]at D;have a0:¬ ((d+1:Nat):Int)<1:=by omega
 let ⟨c0,c1,c2,c5⟩:=h.all
 rcases bq n 0 with M|M
 .have G:R=false:=by rw[<-D];simp[M]
  have a1:(n !=0)=true:=by simpa using M
  subst G;go_in;go_wp2;go_ret;exact⟨z,FB _ w⟩
 subst M;rcases bq p0 0 with K|K
 .have G:R=false:=by rw[<-D];simp[K]
  have Z:(p0 !=0)=true:=by simpa using K
  subst G;go_in;go_wp2;go_ret;exact⟨z,FB _ w⟩
 subst K;let ⟨mn,F⟩:=eX (ah s)
 have Q:=O F;cases mn
 .have G:R=false:=by rw[<-D];simp[F]
  subst G;clear F;have J:=aZ s true w.drew S;have C:bL w w.drew:=(FB _ w).drew;go_in;refine wk fun A g=>?_;go_wp2;apply g;clear g A;refine wk fun A g=>?_;go_wp2;apply g;clear g A;refine wk fun A g=>?_;go_wp2;apply ax 16 (by kernel_rfl) (by kernel_rfl);simp only[Gu,GL,Gv,GD];repeat (go_big_quiet_step (fail))
  apply Hi;go_wp2_with fail;apply J.mono;rintro e w1 ⟨rfl,E⟩;have H:=C.trans (E.mono C.size);have N:=h.below H;clear J C E c0 c1 c2 c5;simp only[if_true,Q.o];go_wp2;go_ret;exact⟨z,H⟩
 have W:R=(decide (args.length=0)&&di ah args d):=by
  rw[<-D];have V:bs 2 0 0=true:=by unfold bs;decide
  have U:=F;simp[V,dR,U]
 subst W;clear F D;have J:=aZ s true w.drew S;have C:bL w w.drew:=(FB _ w).drew;go_in;refine wk fun A g=>?_;go_wp2;apply g;clear g A;refine wk fun A g=>?_;go_wp2;apply g;clear g A;refine wk fun A g=>?_;go_wp2;apply ax 16 (by kernel_rfl) (by kernel_rfl);simp only[Gu,GL,Gv,GD];repeat (go_big_quiet_step (fail))
 apply Hi;go_wp2_with fail;apply J.mono;rintro e w1 ⟨rfl,E⟩;have H:=C.trans (E.mono C.size);have N:=h.below H;clear J C E c0 c1 c2 c5;simp only[if_true,Q.o];go_wp2;apply g;clear g A;refine wk fun A g=>?_;go_wp2;apply g;clear g A;let ⟨c0,c1,c2,c5⟩:=N.all
 refine wk fun A g=>?_;go_wp2;exact g _ _ (hb (ar:=0) hd (by decide) X H N Y)
theorem Bh{n:Int}{sl:Int}{lo:Bool}{args:List Ex}(hd:d<=24)(X:mT d)(h:dY w b j (.mk 3 n s sl lo p0 args))(S:s.size<=9223372036854775807)(Y:Ex.DJ args):
  Jq prog 187 #[.pointer (some (ad b j)),I ((d+1:Nat):Int)] w fun e w'=>e= .returned (.bool (de ah (.mk 3 n s sl lo p0 args) (d+1)))/\bL w w':=by
 let ⟨R,D⟩:=eX (de ah (.mk 3 n s sl lo p0 args) (d+1))
 rw[D];rw[db]at D;have a0:¬ ((d+1:Nat):Int)<1:=by omega
 let ⟨c0,c1,c2,c5⟩:=h.all
 rcases bq n 0 with M|M
 .have G:R=false:=by rw[<-D];simp[M]
  have a1:(n !=0)=true:=by simpa using M
  subst G;go_in;go_wp2;go_ret;exact⟨z,FB _ w⟩
 subst M;rcases bq p0 0 with K|K
 .have G:R=false:=by rw[<-D];simp[K]
  have Z:(p0 !=0)=true:=by simpa using K
  subst G;go_in;go_wp2;go_ret;exact⟨z,FB _ w⟩
 subst K;let ⟨mn,F⟩:=eX (ah s)
 have Q:=O F;cases mn
 .have G:R=false:=by rw[<-D];simp[F]
  subst G;clear F;have J:=aZ s true w.drew S;have C:bL w w.drew:=(FB _ w).drew;go_in;refine wk fun A g=>?_;go_wp2;apply g;clear g A;refine wk fun A g=>?_;go_wp2;apply g;clear g A;refine wk fun A g=>?_;go_wp2;apply ax 16 (by kernel_rfl) (by kernel_rfl);simp only[Gu,GL,Gv,GD];repeat (go_big_quiet_step (fail))
  apply Hi;go_wp2_with fail;apply J.mono;rintro e w1 ⟨rfl,E⟩;have H:=C.trans (E.mono C.size);have N:=h.below H;clear J C E c0 c1 c2 c5;simp only[if_true,Q.o];go_wp2;go_ret;exact⟨z,H⟩
 have W:R=(decide (args.length=1)&&di ah args d):=by
  rw[<-D];have V:bs 3 0 0=true:=by unfold bs;decide
  have U:=F;simp[V,dR,U]
 subst W;clear F D;have J:=aZ s true w.drew S;have C:bL w w.drew:=(FB _ w).drew;go_in;refine wk fun A g=>?_;go_wp2;apply g;clear g A;refine wk fun A g=>?_;go_wp2;apply g;clear g A;refine wk fun A g=>?_;go_wp2;apply ax 16 (by kernel_rfl) (by kernel_rfl);simp only[Gu,GL,Gv,GD];repeat (go_big_quiet_step (fail))
 apply Hi;go_wp2_with fail;apply J.mono;rintro e w1 ⟨rfl,E⟩;have H:=C.trans (E.mono C.size);have N:=h.below H;clear J C E c0 c1 c2 c5;simp only[if_true,Q.o];go_wp2;apply g;clear g A;refine wk fun A g=>?_;go_wp2;apply g;clear g A;let ⟨c0,c1,c2,c5⟩:=N.all
 refine wk fun A g=>?_;go_wp2;exact g _ _ (hb (ar:=1) hd (by decide) X H N Y)
theorem Cj{n:Int}{sl:Int}{lo:Bool}{args:List Ex}(hd:d<=24)(Y:mT d)(h:dY w b j (.mk 4 n s sl lo p0 args))(S:s.size<=9223372036854775807)(Z:Ex.DJ args):
  Jq prog 187 #[.pointer (some (ad b j)),I ((d+1:Nat):Int)] w fun e w'=>e= .returned (.bool (de ah (.mk 4 n s sl lo p0 args) (d+1)))/\bL w w':=by
 let ⟨R,D⟩:=eX (de ah (.mk 4 n s sl lo p0 args) (d+1))
 rw[D];rw[db]at D;have a1:¬ ((d+1:Nat):Int)<1:=by omega
 let ⟨c0,c1,c2,c5⟩:=h.all
 rcases bq n 0 with M|M
 .have G:R=false:=by rw[<-D];simp[M]
  have a2:(n !=0)=true:=by simpa using M
  subst G;go_in;go_wp2;go_ret;exact⟨z,FB _ w⟩
 subst M;rcases bq p0 0 with K|K
 .have G:R=false:=by rw[<-D];simp[K]
  have a0:(p0 !=0)=true:=by simpa using K
  subst G;go_in;go_wp2;go_ret;exact⟨z,FB _ w⟩
 subst K;let ⟨mn,F⟩:=eX (decide (s=aq))
 have Q:=O F;cases mn
 .have G:R=false:=by rw[<-D];have X:=of_decide_eq_false F;simp[X]
  subst G;clear F;have J:=aZ s false w.drew S;have C:bL w w.drew:=(FB _ w).drew;go_in;refine wk fun A g=>?_;go_wp2;apply g;clear g A;refine wk fun A g=>?_;go_wp2;apply g;clear g A;refine wk fun A g=>?_;go_wp2;apply ax 16 (by kernel_rfl) (by kernel_rfl);simp only[Gu,GL,Gv,GD];repeat (go_big_quiet_step (fail))
  apply Hi;go_wp2_with fail;apply J.mono;rintro e w1 ⟨rfl,E⟩;have H:=C.trans (E.mono C.size);have N:=h.below H;clear J C E c0 c1 c2 c5;simp only[FN,if_false,Q.o];go_wp2;go_ret;exact⟨z,H⟩
 have W:R=(decide (args.length=1)&&di ah args d):=by
  rw[<-D];have V:bs 4 0 0=true:=by unfold bs;decide
  have U:=of_decide_eq_true F;simp[V,dR,U]
 subst W;clear F D;have J:=aZ s false w.drew S;have C:bL w w.drew:=(FB _ w).drew;go_in;refine wk fun A g=>?_;go_wp2;apply g;clear g A;refine wk fun A g=>?_;go_wp2;apply g;clear g A;refine wk fun A g=>?_;go_wp2;apply ax 16 (by kernel_rfl) (by kernel_rfl);simp only[Gu,GL,Gv,GD];repeat (go_big_quiet_step (fail))
 apply Hi;go_wp2_with fail;apply J.mono;rintro e w1 ⟨rfl,E⟩;have H:=C.trans (E.mono C.size);have N:=h.below H;clear J C E c0 c1 c2 c5;simp only[FN,if_false,Q.o];go_wp2;apply g;clear g A;refine wk fun A g=>?_;go_wp2;apply g;clear g A;let ⟨c0,c1,c2,c5⟩:=N.all
 refine wk fun A g=>?_;go_wp2;exact g _ _ (hb (ar:=1) hd (by decide) Y H N Z)
theorem Be{n:Int}{sl:Int}{lo:Bool}{args:List Ex}(hd:d<=24)(Y:mT d)(h:dY w b j (.mk 5 n s sl lo p0 args))(S:s.size<=9223372036854775807)(Z:Ex.DJ args):
  Jq prog 187 #[.pointer (some (ad b j)),I ((d+1:Nat):Int)] w fun e w'=>e= .returned (.bool (de ah (.mk 5 n s sl lo p0 args) (d+1)))/\bL w w':=by
 let ⟨R,D⟩:=eX (de ah (.mk 5 n s sl lo p0 args) (d+1))
 rw[D];rw[db]at D;have a1:¬ ((d+1:Nat):Int)<1:=by omega
 let ⟨c0,c1,c2,c5⟩:=h.all
 rcases bq n 0 with M|M
 .have G:R=false:=by rw[<-D];simp[M]
  have a2:(n !=0)=true:=by simpa using M
  subst G;go_in;go_wp2;go_ret;exact⟨z,FB _ w⟩
 subst M;rcases bq p0 0 with K|K
 .have G:R=false:=by rw[<-D];simp[K]
  have a0:(p0 !=0)=true:=by simpa using K
  subst G;go_in;go_wp2;go_ret;exact⟨z,FB _ w⟩
 subst K;let ⟨mn,F⟩:=eX (decide (s=aq))
 have Q:=O F;cases mn
 .have G:R=false:=by rw[<-D];have X:=of_decide_eq_false F;simp[X]
  subst G;clear F;have J:=aZ s false w.drew S;have C:bL w w.drew:=(FB _ w).drew;go_in;refine wk fun A g=>?_;go_wp2;apply g;clear g A;refine wk fun A g=>?_;go_wp2;apply g;clear g A;refine wk fun A g=>?_;go_wp2;apply ax 16 (by kernel_rfl) (by kernel_rfl);simp only[Gu,GL,Gv,GD];repeat (go_big_quiet_step (fail))
  apply Hi;go_wp2_with fail;apply J.mono;rintro e w1 ⟨rfl,E⟩;have H:=C.trans (E.mono C.size);have N:=h.below H;clear J C E c0 c1 c2 c5;simp only[FN,if_false,Q.o];go_wp2;go_ret;exact⟨z,H⟩
 have W:R=(decide (args.length=1)&&di ah args d):=by
  rw[<-D];have V:bs 5 0 0=true:=by unfold bs;decide
  have U:=of_decide_eq_true F;simp[V,dR,U]
 subst W;clear F D;have J:=aZ s false w.drew S;have C:bL w w.drew:=(FB _ w).drew;go_in;refine wk fun A g=>?_;go_wp2;apply g;clear g A;refine wk fun A g=>?_;go_wp2;apply g;clear g A;refine wk fun A g=>?_;go_wp2;apply ax 16 (by kernel_rfl) (by kernel_rfl);simp only[Gu,GL,Gv,GD];repeat (go_big_quiet_step (fail))
 apply Hi;go_wp2_with fail;apply J.mono;rintro e w1 ⟨rfl,E⟩;have H:=C.trans (E.mono C.size);have N:=h.below H;clear J C E c0 c1 c2 c5;simp only[FN,if_false,Q.o];go_wp2;apply g;clear g A;refine wk fun A g=>?_;go_wp2;apply g;clear g A;let ⟨c0,c1,c2,c5⟩:=N.all
 refine wk fun A g=>?_;go_wp2;exact g _ _ (hb (ar:=1) hd (by decide) Y H N Z)
theorem BC{n:Int}{sl:Int}{lo:Bool}{args:List Ex}(hd:d<=24)(X:mT d)(h:dY w b j (.mk 6 n s sl lo p0 args))(S:s.size<=9223372036854775807)(Y:Ex.DJ args):
  Jq prog 187 #[.pointer (some (ad b j)),I ((d+1:Nat):Int)] w fun e w'=>e= .returned (.bool (de ah (.mk 6 n s sl lo p0 args) (d+1)))/\bL w w':=by
 let ⟨R,H⟩:=eX (de ah (.mk 6 n s sl lo p0 args) (d+1))
 rw[H];rw[db]at H;have a1:¬ ((d+1:Nat):Int)<1:=by omega
 let ⟨c0,c1,c2,c5⟩:=h.all
 rcases bq n 0 with Q|Q
 .have K:R=false:=by rw[<-H];simp[Q]
  have a2:(n !=0)=true:=by simpa using Q
  subst K;go_in;go_wp2;go_ret;exact⟨z,FB _ w⟩
 subst Q;let ⟨mn,J⟩:=eX (decide (s=aq))
 have N:=O J;cases mn
 .have K:R=false:=by rw[<-H];have W:=of_decide_eq_false J;simp[W]
  subst K;clear J;have F:=aZ s false w.drew S;have C:bL w w.drew:=(FB _ w).drew;go_in;refine wk fun A g=>?_;go_wp2;apply g;clear g A;refine wk fun A g=>?_;go_wp2;apply g;clear g A;refine wk fun A g=>?_;go_wp2;apply ax 16 (by kernel_rfl) (by kernel_rfl);simp only[Gu,GL,Gv,GD];repeat (go_big_quiet_step (fail))
  apply Hi;go_wp2_with fail;apply F.mono;rintro e w1 ⟨rfl,D⟩;have E:=C.trans (D.mono C.size);have G:=h.below E;clear F C D c0 c1 c2 c5;simp only[FN,if_false,N.o];go_wp2;go_ret;exact⟨z,E⟩
 by_cases Z:p0<1
 .have K:R=false:=by
   rw[<-H];have M:bs 6 0 p0=false:=by unfold bs;rw[am (by decide),aD rfl];rw[dv (by omega),HD]
   simp[M]
  subst K;clear J;have F:=aZ s false w.drew S;have C:bL w w.drew:=(FB _ w).drew;go_in;refine wk fun A g=>?_;go_wp2;apply g;clear g A;refine wk fun A g=>?_;go_wp2;apply g;clear g A;refine wk fun A g=>?_;go_wp2;apply ax 16 (by kernel_rfl) (by kernel_rfl);simp only[Gu,GL,Gv,GD];repeat (go_big_quiet_step (fail))
  apply Hi;go_wp2_with fail;apply F.mono;rintro e w1 ⟨rfl,D⟩;have E:=C.trans (D.mono C.size);have G:=h.below E;clear F C D c0 c1 c2 c5;simp only[FN,if_false,N.o];go_wp2;apply g;clear g A;refine wk fun A g=>?_;go_wp2;apply g;clear g A;let ⟨c0,c1,c2,c5⟩:=G.all
  clear h G;go_wp2;go_ret;exact⟨z,E⟩
 by_cases a0:11<p0
 .have K:R=false:=by
   rw[<-H];have M:bs 6 0 p0=false:=by unfold bs;rw[am (by decide),aD rfl];rw[dv (p:=p0<=11) (by omega),If]
   simp[M]
  subst K;clear J;have F:=aZ s false w.drew S;have C:bL w w.drew:=(FB _ w).drew;go_in;refine wk fun A g=>?_;go_wp2;apply g;clear g A;refine wk fun A g=>?_;go_wp2;apply g;clear g A;refine wk fun A g=>?_;go_wp2;apply ax 16 (by kernel_rfl) (by kernel_rfl);simp only[Gu,GL,Gv,GD];repeat (go_big_quiet_step (fail))
  apply Hi;go_wp2_with fail;apply F.mono;rintro e w1 ⟨rfl,D⟩;have E:=C.trans (D.mono C.size);have G:=h.below E;clear F C D c0 c1 c2 c5;simp only[FN,if_false,N.o];go_wp2;apply g;clear g A;refine wk fun A g=>?_;go_wp2;apply g;clear g A;let ⟨c0,c1,c2,c5⟩:=G.all
  clear h G;go_wp2;go_ret;exact⟨z,E⟩
 have V:R=(decide (args.length=2)&&di ah args d):=by
  rw[<-H];have M:bs 6 0 p0=true:=by unfold bs;rw[am (by decide),aD rfl,eP (p:=1<=p0) (by omega),eP (p:=p0<=11) (by omega)];rfl
  have U:=of_decide_eq_true J;simp[M,dR,U]
 subst V;clear J H;have F:=aZ s false w.drew S;have C:bL w w.drew:=(FB _ w).drew;go_in;refine wk fun A g=>?_;go_wp2;apply g;clear g A;refine wk fun A g=>?_;go_wp2;apply g;clear g A;refine wk fun A g=>?_;go_wp2;apply ax 16 (by kernel_rfl) (by kernel_rfl);simp only[Gu,GL,Gv,GD];repeat (go_big_quiet_step (fail))
 apply Hi;go_wp2_with fail;apply F.mono;rintro e w1 ⟨rfl,D⟩;have E:=C.trans (D.mono C.size);have G:=h.below E;clear F C D c0 c1 c2 c5;simp only[FN,if_false,N.o];go_wp2;apply g;clear g A;refine wk fun A g=>?_;go_wp2;apply g;clear g A;let ⟨c0,c1,c2,c5⟩:=G.all
 refine wk fun A g=>?_;go_wp2;exact g _ _ (hb (ar:=2) hd (by decide) X E G Y)
theorem td{k n:Int}{sl:Int}{lo:Bool}{args:List Ex}(hd:d<=24)(_:mT d)(H:k≠1)(C:k≠2)(Q:k≠3)(h4:k≠4)(Z:k≠5)(G:k≠6)(h:dY w b j (.mk k n s sl lo p0 args))(W:s.size<=9223372036854775807)(_:Ex.DJ args):
  Jq prog 187 #[.pointer (some (ad b j)),I ((d+1:Nat):Int)] w fun e w'=>e= .returned (.bool (de ah (.mk k n s sl lo p0 args) (d+1)))/\bL w w':=by
 let ⟨R,F⟩:=eX (de ah (.mk k n s sl lo p0 args) (d+1))
 rw[F];rw[db]at F;have a3:¬ ((d+1:Nat):Int)<1:=by omega
 let ⟨c0,c1,c2,c5⟩:=h.all
 have k1:(k !=1)=true:=by simpa using H
 have k6:(k !=6)=true:=by simpa using G
 have e1:(k==1)=false:=by simpa using H
 have e2:(k==2)=false:=by simpa using C
 have e3:(k==3)=false:=by simpa using Q
 have e4:(k==4)=false:=by simpa using h4
 have e5:(k==5)=false:=by simpa using Z
 have e6:(k==6)=false:=by simpa using G
 rcases bq n 0 with U|U
 .have D:R=false:=by rw[<-F];simp[H,C,Q,G,U]
  have a4:(n !=0)=true:=by simpa using U
  subst D;go_in;go_wp2;go_ret;exact⟨z,FB _ w⟩
 subst U;rcases bq p0 0 with N|N
 .have D:R=false:=by rw[<-F];simp[H,C,Q,G,N]
  have a0:(p0 !=0)=true:=by simpa using N
  subst D;go_in;go_wp2;go_ret;exact⟨z,FB _ w⟩
 subst N;let ⟨mn,S⟩:=eX (decide (s=aq))
 have V:=O S;cases mn
 .have D:R=false:=by rw[<-F];have Y:=of_decide_eq_false S;simp[H,C,Q,G,Y]
  subst D;clear S;have M:=aZ s false w.drew W;have E:bL w w.drew:=(FB _ w).drew;go_in;refine wk fun A g=>?_;go_wp2;apply g;clear g A;refine wk fun A g=>?_;go_wp2;apply g;clear g A;refine wk fun A g=>?_;go_wp2;apply ax 16 (by kernel_rfl) (by kernel_rfl);simp only[Gu,GL,Gv,GD];repeat (go_big_quiet_step (fail))
  apply Hi;go_wp2_with fail;apply M.mono;rintro e w1 ⟨rfl,J⟩;have K:=E.trans (J.mono E.size);have C:=h.below K;clear M E J c0 c1 c2 c5;simp only[FN,if_false,V.o];go_wp2;go_ret;exact⟨z,K⟩
 have D:R=false:=by
  have X:bs k 0 0=false:=by
   unfold bs;rw[am H,am G];have:¬ (2<=k/\k<=5):=by omega
   rw[<-Bool.not_eq_true,Bool.and_eq_true,decide_eq_true_eq,decide_eq_true_eq];exact this
  rw[<-F];simp[X]
 subst D;clear S F;have M:=aZ s false w.drew W;have E:bL w w.drew:=(FB _ w).drew;go_in;refine wk fun A g=>?_;go_wp2;apply g;clear g A;refine wk fun A g=>?_;go_wp2;apply g;clear g A;refine wk fun A g=>?_;go_wp2;apply ax 16 (by kernel_rfl) (by kernel_rfl);simp only[Gu,GL,Gv,GD];repeat (go_big_quiet_step (fail))
 apply Hi;go_wp2_with fail;apply M.mono;rintro e w1 ⟨rfl,J⟩;have K:=E.trans (J.mono E.size);have C:=h.below K;clear M E J c0 c1 c2 c5;simp only[FN,if_false,V.o];go_wp2;apply g;clear g A;obtain⟨c0,-⟩:=C.all;clear h C;go_wp2;go_ret;exact⟨z,K⟩
theorem rj:∀ (d:Nat),d<=24->mT d:=by
 intro d;induction d with
 |zero=>
  intro _ x b K w h g;have J:de ah x 0=false:=by
   let ⟨k,n,s,sl,lo,o,args⟩:=x
   rw[db];simp
  rw[J];go_in;go_wp2;go_ret;exact⟨z,FB _ w⟩
 |succ d j=>
  intro hd x b K w h g;have j:=j (by omega);let ⟨k,n,s,sl,lo,o,args⟩:=x
  unfold Ex.nb at g;have A:d<=24:=by omega
  by_cases G:k=1
  .subst G;exact Bk A j h g.1 g.2
  by_cases D:k=2
  .subst D;exact BZ A j h g.1 g.2
  by_cases C:k=3
  .subst C;exact Bh A j h g.1 g.2
  by_cases F:k=4
  .subst F;exact Cj A j h g.1 g.2
  by_cases H:k=5
  .subst H;exact Be A j h g.1 g.2
  by_cases E:k=6
  .subst E;exact BC A j h g.1 g.2
  exact td A j G D C F H E h g.1 g.2
theorem jf(x:Ex)(nd:Bool)(b D:Nat)(w:Fk)(h:dY w b D x)(G:x.nb):Jq prog 170 #[.pointer (some (ad b D)),.bool nd] w fun e w'=>e= .returned (.bool (if nd=true then de ah x 24 else iB x))/\bL w w':=by
 cases nd
 .rw[am FY];let ⟨k,n,s,sl,lo,o,args⟩:=x
  let ⟨c0,c1,c2,c5⟩:=h.all
  obtain⟨a,cap,c6,M,-⟩:=h.args;let ⟨R,j⟩:=eX (iB (.mk k n s sl lo o args))
  rw[j];unfold iB at j;clear h G;rcases bq k 0 with g|g
  .have C:R=false:=by rw[<-j];simp[g]
   subst C;go_in;go_wp2;go_ret;exact⟨z,FB _ w⟩
  subst g;rcases bq n 0 with g|g
  .have C:R=false:=by rw[<-j];simp[g]
   subst C;go_in;go_wp2;go_ret;exact⟨z,FB _ w⟩
  subst g;rcases bq s aq with g|g
  .have C:R=false:=by rw[<-j];simp[g]
   subst C;have K:s.toList.isEmpty=false:=by rw[eA];exact dv g
   go_in;go_wp2;go_ret;exact⟨z,FB _ w⟩
  have K:s.toList.isEmpty=true:=by rw[eA];exact eP g
  rcases bq o 0 with A|A
  .have C:R=false:=by rw[<-j];simp[A]
   subst C;clear g;go_in;go_wp2;go_ret;exact⟨z,FB _ w⟩
  subst A;rcases bq args.length 0 with A|A
  .have C:R=false:=by rw[<-j];simp;intro _ e;subst e;simp at A
   subst C;have N:(((args.length:Nat):Int)==0)=false:=by rw[beq_eq_false_iff_ne];omega
   clear g j;go_in;go_wp2;go_ret;exact⟨z,FB _ w⟩
  have J:R=true:=by rw[<-j];simp[g,A]
  subst J;rw[A]at c6;clear g j A;go_in;go_wp2;go_ret;exact⟨z,FB _ w⟩
 .rw[aD rfl];have E:=rj 24 rl x b D w h G;have F:((24:Nat):Int)=24:=z;rw[F]at E;clear F;go_in;go_wp2_with fail;apply E.mono;rintro e w1 ⟨rfl,H⟩;go_wp2;go_ret;exact⟨z,H⟩
def Bl(k:Nat):List Fr:=[.bool (ov k),.bool (nu k),.bool (jn k),.bool (decide ((k:Int)=3)),.bool (decide ((k:Int)=4)||decide ((k:Int)=5)),.bool (decide ((k:Int)=4))]
def oA(w:Fk):Prop:=∀k:Nat,1<=k->k<16->w.rangeAt 1 (k*6) (Bl k)
theorem oA.below{w':Fk}(h:oA w)(A:bL w w'):oA w':=fun k D C j v g=>by have:=h k D C j v g;rw[<-this];simp[FI,A.block 1 (FF w _ this)]
def wh(d:Nat):Prop:=∀ (s:St) (b off:Nat) (w:Fk),oA w->gy w b off s->s.nb->Jq prog 147 #[.pointer (some ⟨b,off,none⟩),.int .i64 (d:Int)] w fun e w'=>e= .returned (.bool (jv ah s d))/\FM w.1.size w w'
def tR(d:Nat):Prop:=∀ (l:List St) (a:Option Addr) (cap:Nat) (w:Fk),oA w->eK w a cap l->St.DJ l->Jq prog 115 #[.slice a l.length cap,.int .i64 (d:Int)] w fun e w'=>e= .returned (.bool (bB ah l d))/\FM w.1.size w w'
theorem uk(s:St)(d:Nat)(h:24<d):jv ah s d=false:=by
 let ⟨F,sl,H,J,E,g,A,sb,C,G,D,w,j⟩:=s
 unfold jv;rw[dv (p:=d<=24) (by omega),HD,If]
theorem pO{cap:Nat}{l:List St}{R:Bool}(M:aF j cap)(Q:Hid (l.length=j))(D:Hid (bB ah (l.drop 0) d=R))(W:Hid (St.DJ l))(g:Hid (bL w w/\eK w a cap l))(V:Hid (0<j->wh d))(Z:oA w)(hU:l2.length=23:=by rfl):
  FR prog (Jp 2 (f115.body.getD .skip)) (Gb prog f115 (fun e w'=>e= .returned (.bool R)/\bL w w')) ⟨(.slice a j cap::I d::l2).toArray,[]⟩ w:=by
 revert l2;apply aN;iterate 23 intro _
 change FR _ _ _ _ _;conv in (Jp _ _)=>whnf
 go_wp2;go_loopg [15] j (fun x iv wr=>∃i:Nat,i<=j/\x=j-i/\iv=I i/\Hid (bL w wr/\eK wr a cap l)/\Hid (bB ah (l.drop i) d=R));case atStart=>exact⟨0,FX _,z,z,g,D⟩
 case round=>
  clear g D;obtain⟨i,hi,rfl,rfl,g,D⟩:=hrel;let ⟨A,C⟩:=g
  by_cases a3:i<j
  .have a1:(i:Int)< (j:Int):=by omega
   have a5:(0:Int)<=(i:Int):=by omega
   have a4:(i:Int)+1<=9223372036854775807:=by have C:=M.1;have h2:=M.2;omega
   obtain⟨s,E⟩:∃s,l[i]? =some s:=⟨_,FC (by rw[Q.o];exact a3)⟩;have H:=D.o;rw[lA E]at H;obtain⟨b2,Y,rfl,N⟩:=C.at E;have G:=V (by omega) s b2 (Y+i*25) wr (Z.below A) N (St.DM W E);let ⟨m,S⟩:=eX (jv ah s d)
   rw[S]at G H;have J:=O H;clear N E S H D;go_wp2_with fail;apply G.mono;rintro e w2 ⟨rfl,F⟩;have K:=A.trans (F.mono A.size);cases m
   .have X:R=false:=J.symm;subst X;clear g G C A F;go_wp2;go_ret;exact⟨z,K⟩
   .have a2:Hid (bB ah (l.drop (i+1)) d=R):=O J;have U:=O (EQ K (C.below F));clear g G C A F K J;go_wp2;go_roundg (j- (i+1));case measure=>omega
    case rel=>exact⟨i+1,by omega,z,z,U,a2⟩
  .obtain rfl:i=j:=by omega
   have a1:¬ (i:Int)< (i:Int):=by omega
   have a0:R=true:=by rw[<-D.o,Gw (by rw[Q.o];exact FL _)];unfold bB;rfl
   subst a0;clear C g;go_wp2;go_ret;exact⟨z,A⟩
theorem oq(hd:d<=25)(V:d<=24->wh d):tR d:=by
 intro l a cap w M h Q;let ⟨R,G⟩:=eX (bB ah (l.drop 0) d)
 rw[show bB ah l d=R from G];let ⟨g,F⟩:=eX (l.length)
 have A:=h.1;rw[F]at A ⊢;have D:=O F;have E:=O G;have K:=O Q;have C:=O (EQ (FB w.1.size w) h);clear F G Q h;by_cases N:24<d/\0<g
 .have U:R=false:=by
   have H:0<l.length:=by rw[D.o];exact N.2
   have X:=FC H;rw[<-E.o,lA X,uk _ _ N.1];rfl
  subst U;have Y:(24:Int)< (d:Int):=by omega
  have W:(0:Int)< (g:Int):=by omega
  clear C;go_in;go_wp2;go_ret;exact⟨z,FB _ w⟩
 have J:Hid (0<g->wh d):=O (fun h=>V (by omega));go_in;refine wk fun S j=>?_;go_wp2;apply j;clear j S;refine wk fun S j=>?_;by_cases Z:(24:Int)< (d:Int)
 .have W:¬ (0:Int)< (g:Int):=by omega
  go_wp2;exact j _ _ (pO A D E K C J M)
 .go_wp2;exact j _ _ (pO A D E K C J M)
theorem Bs{q:Nat}{k sl:Int}{sb:List St}{b0 b1 b2 b3:Bool}(hd:d<=24)(hB:tR (d+1))(M:gy W b j (.mk k sl p0 s6 s7 e0 e1 sb T0 p1 p2 p3 z4))(hq:ak W q 254 [.bool b0,.bool b1,.bool b2,.bool b3,.bool z3,.bool z2])(J:oA W)(E:bL w W)(b8:St.DJ sb)(b5:St.DJ T0)
  (b6:bB ah sb (d+1)=z0)(a9:bB ah T0 (d+1)=z1)(hU:l2.length=92:=by rfl):
  FR prog (Jp 5 (f147.body.getD .skip)) (Gb prog f147 (fun e w'=>e= .returned (.bool ((z3||decide (sb.length=0))&& ((z2||decide (T0.length=0))&& (z0&&z1))))/\bL w w')) ⟨(.pointer (some (ad b j))::I d::v0::v1::v2::Pt q::l2).toArray,[]⟩ W:=by
 revert l2;apply aN;iterate 92 intro _
 change FR _ _ _ _ _;conv in (Jp _ _)=>whnf
 obtain⟨-,-,-,-,-,-,-,⟨ab,c9,a6,b7⟩,ae,a2,F,Q⟩:=M.parts;have q4:=hq.cell 4;have q5:=hq.cell 5;simp only[FH,FE]at q4 q5;have X:=hB sb ab c9 W J b7 b8;rw[b6]at X;have N:((d:Int)+1)=((d+1:Nat):Int):=by omega
 rw[<-N]at X;have d1:(d:Int)+1<=9223372036854775807:=by omega
 have d0:(0:Int)<=(d:Int):=by omega
 let ⟨nB,b4⟩:=eX (sb.length)
 let ⟨d2,a7⟩:=eX (T0.length)
 rw[b4]at a6 X ⊢;rw[a7]at F ⊢;have a1:=O a7;clear b4 a7;let ⟨R,hR⟩:=eX (((z3||decide (nB=0))&& ((z2||decide (d2=0))&& (z0&&z1))))
 rw[hR];have U:=O hR;have S:=O (EQ M (EQ J E));have HB:=O hB;have HM:=O (EQ a9 b5);clear hR M J E hB b6 a9 b8 b5 b7 Q hq N;cases z3
 .cases z2
  .skip;rcases bq nB 0 with Y|Y
   .have H:R=false:=by rw[<-U.o];simp[Y]
    subst H;have a8:=Y;have a4:=S.2.2;clear S;go_wp2;go_ret;exact⟨z,a4⟩
   subst Y;rcases bq d2 0 with Z|Z
   .have H:R=false:=by rw[<-U.o];simp[Z]
    subst H;have a8:=Z;have b9:0<d2:=by omega
    have c8:(0:Int)< (d2:Int):=by omega
    have a4:=S.2.2;clear S;go_wp2;go_ret;exact⟨z,a4⟩
   subst Z;have C:R=(z0&&z1):=by rw[<-U.o];simp
   have a5:=O C;clear C;go_wp2_with fail;apply X.mono;rintro e w1 ⟨rfl,g⟩;let ⟨M,J,E⟩:=S
   have G:=M.below g;have K:=J.below g;have D:=E.trans (g.mono E.size);clear X M J E g a6 F q4 q5;cases z0
   .have H:R=false:=by rw[<-U.o];simp
    subst H;clear G K;go_wp2;go_ret;exact⟨z,D⟩
   obtain⟨-,-,-,-,-,-,-,-,ae,a2,F,Q⟩:=G.parts;have A:=HB T0 ae a2 w1 K Q HM.2;rw[HM.o.1,a1.o]at A;rw[a1.o]at F;have N:((d:Int)+1)=((d+1:Nat):Int):=by omega
   rw[<-N]at A;clear G K Q N;go_wp2_with fail;apply A.mono;rintro e w3 ⟨rfl,V⟩;have a3:=D.trans (V.mono D.size);clear A V D F;have C:=a5.o;subst C;go_wp2;go_ret;exact⟨z,a3⟩
  .skip;rcases bq nB 0 with Y|Y
   .have H:R=false:=by rw[<-U.o];simp[Y]
    subst H;have a8:=Y;have a4:=S.2.2;clear S;go_wp2;go_ret;exact⟨z,a4⟩
   subst Y;have C:R=(z0&&z1):=by rw[<-U.o];simp
   have a5:=O C;clear C;go_wp2_with fail;apply X.mono;rintro e w1 ⟨rfl,g⟩;let ⟨M,J,E⟩:=S
   have G:=M.below g;have K:=J.below g;have D:=E.trans (g.mono E.size);clear X M J E g a6 F q4 q5;cases z0
   .have H:R=false:=by rw[<-U.o];simp
    subst H;clear G K;go_wp2;go_ret;exact⟨z,D⟩
   obtain⟨-,-,-,-,-,-,-,-,ae,a2,F,Q⟩:=G.parts;have A:=HB T0 ae a2 w1 K Q HM.2;rw[HM.o.1,a1.o]at A;rw[a1.o]at F;have N:((d:Int)+1)=((d+1:Nat):Int):=by omega
   rw[<-N]at A;clear G K Q N;go_wp2_with fail;apply A.mono;rintro e w3 ⟨rfl,V⟩;have a3:=D.trans (V.mono D.size);clear A V D F;have C:=a5.o;subst C;go_wp2;go_ret;exact⟨z,a3⟩
 .cases z2
  .skip;rcases bq d2 0 with Z|Z
   .have H:R=false:=by rw[<-U.o];simp[Z]
    subst H;have a8:=Z;have b9:0<d2:=by omega
    have c8:(0:Int)< (d2:Int):=by omega
    have a4:=S.2.2;clear S;go_wp2;go_ret;exact⟨z,a4⟩
   subst Z;have C:R=(z0&&z1):=by rw[<-U.o];simp
   have a5:=O C;clear C;go_wp2_with fail;apply X.mono;rintro e w1 ⟨rfl,g⟩;let ⟨M,J,E⟩:=S
   have G:=M.below g;have K:=J.below g;have D:=E.trans (g.mono E.size);clear X M J E g a6 F q4 q5;cases z0
   .have H:R=false:=by rw[<-U.o];simp
    subst H;clear G K;go_wp2;go_ret;exact⟨z,D⟩
   obtain⟨-,-,-,-,-,-,-,-,ae,a2,F,Q⟩:=G.parts;have A:=HB T0 ae a2 w1 K Q HM.2;rw[HM.o.1,a1.o]at A;rw[a1.o]at F;have N:((d:Int)+1)=((d+1:Nat):Int):=by omega
   rw[<-N]at A;clear G K Q N;go_wp2_with fail;apply A.mono;rintro e w3 ⟨rfl,V⟩;have a3:=D.trans (V.mono D.size);clear A V D F;have C:=a5.o;subst C;go_wp2;go_ret;exact⟨z,a3⟩
  .skip;have C:R=(z0&&z1):=by rw[<-U.o];simp
   have a5:=O C;clear C;go_wp2_with fail;apply X.mono;rintro e w1 ⟨rfl,g⟩;let ⟨M,J,E⟩:=S
   have G:=M.below g;have K:=J.below g;have D:=E.trans (g.mono E.size);clear X M J E g a6 F q4 q5;cases z0
   .have H:R=false:=by rw[<-U.o];simp
    subst H;clear G K;go_wp2;go_ret;exact⟨z,D⟩
   obtain⟨-,-,-,-,-,-,-,-,ae,a2,F,Q⟩:=G.parts;have A:=HB T0 ae a2 w1 K Q HM.2;rw[HM.o.1,a1.o]at A;rw[a1.o]at F;have N:((d:Int)+1)=((d+1:Nat):Int):=by omega
   rw[<-N]at A;clear G K Q N;go_wp2_with fail;apply A.mono;rintro e w3 ⟨rfl,V⟩;have a3:=D.trans (V.mono D.size);clear A V D F;have C:=a5.o;subst C;go_wp2;go_ret;exact⟨z,a3⟩
theorem BE{q:Nat}{k sl:Int}{sb:List St}{b0 b1 b2 b3:Bool}(hd:d<=24)(hB:tR (d+1))(M:gy W b j (.mk k sl p0 s6 s7 e0 e1 sb T0 p1 p2 p3 z4))(N:ak W q 254 [.bool b0,.bool b1,.bool b2,.bool b3,.bool z0,.bool z1])(K:oA W)(G:bL w W)(a3:St.DJ sb)(Z:St.DJ T0)
  (a0:bB ah sb (d+1)=z5)(X:bB ah T0 (d+1)=z6)
  (c3:∀W,dY W b (j+12) e1->Jq prog 170 #[.pointer (some (ad b (j+12))),.bool b3] W fun e w'=>e= .returned (.bool z2)/\bL W w')
  (c4:∀W,dY W b (j+5) e0->Jq prog 170 #[.pointer (some (ad b (j+5))),.bool b2] W fun e w'=>e= .returned (.bool z3)/\bL W w')(hU:l2.length=92:=by rfl):
  FR prog (Jp 4 (f147.body.getD .skip)) (Gb prog f147 (fun e w'=>e= .returned (.bool (z2&& (z3&& ((z0||decide (sb.length=0))&& ((z1||decide (T0.length=0))&& (z5&&z6))))))/\bL w w')) ⟨(.pointer (some (ad b j))::I d::v0::v1::v2::Pt q::l2).toArray,[]⟩ W:=by
 revert l2;apply aN;iterate 92 intro _
 change FR _ _ _ _ _;have a4:prog.follows .mixedOrders=true:=by kernel_rfl
 conv in (Jp _ _)=>whnf
 have V:∀C,bL W C->gy C b j (.mk k sl p0 s6 s7 e0 e1 sb T0 p1 p2 p3 z4)/\ak C q 254 [.bool b0,.bool b1,.bool b2,.bool b3,.bool z0,.bool z1]/\oA C/\bL w C:=fun C Q=>⟨M.below Q,N.below Q,K.below Q,G.trans (Q.mono G.size)⟩;have D:=O V;have Y:=O (EQ c3 c4);have J:=O (EQ hB (EQ a3 (EQ Z (EQ a0 X))));clear M N K G V c3 c4 hB a3 Z a0 X;refine wk fun F HK=>?_;go_wp2;apply al [] (fun C=>bL W C) a4;have g:Hid (bL W W.drew):=O ((FB _ W).drew);refine tb 0 g ?_;refine tb 1 g ?_;refine tb 2 g ?_;refine tb 3 g ?_;refine tg _ 4 g (fun E U=> (D E U).2.1.cell 3) ?_;have H:=(D _ g).1.parts;refine tn 5 fun F A=>?_;go_simp;apply (Y.1 _ H.2.2.2.2.2.2.1).mono;rintro e E ⟨rfl,a2⟩;have g:=O (g.trans (a2.mono g.size))
 clear a2 H;cases z2
 .skip;apply A _ _ (fun _=>g);clear A F;refine t0 6 g ?_;refine t0 7 g ?_;refine tu 8 g ?_;refine tu 9 g ?_;refine tu 10 g ?_;refine tu 11 g ?_;refine tu 12 g ?_;refine tu 13 g ?_;refine tu 14 g ?_;refine t0 15 g ?_;refine dn ?_;try simp only[HD,Gx]
  have S:=(D E g).2.2.2;go_wp2;go_ret;exact⟨z,S⟩
 apply A _ _ (fun _=>g);clear A F;refine t0 6 g ?_;refine t0 7 g ?_;refine tb 8 g ?_;refine tb 9 g ?_;refine tb 10 g ?_;refine tb 11 g ?_;refine tg _ 12 g (fun E U=> (D E U).2.1.cell 2) ?_;have H:=(D _ g).1.parts;refine tn 13 fun F A=>?_;go_simp;apply (Y.2 _ H.2.2.2.2.2.1).mono;rintro e R ⟨rfl,a1⟩;have g:=O (g.trans (a1.mono g.size));clear a1 H;cases z3
 .skip;apply A _ _ (fun _=>g);clear A F;refine t0 14 g ?_;refine t0 15 g ?_;refine dn ?_;try simp only[HD,Gx]
  have S:=(D R g).2.2.2;go_wp2;go_ret;exact⟨z,S⟩
 apply A _ _ (fun _=>g);clear A F;refine t0 14 g ?_;refine t0 15 g ?_;refine dn ?_;try simp only[Gx]
 let ⟨M,N,K,G⟩:=D R g
 go_wp2;exact HK _ _ (Bs hd J.1 M N K G J.2.1 J.2.2.1 J.2.2.2.1 J.2.2.2.2)
theorem uj:∃d,prog.underlying 254=some d/\d.isRow=true:=by
 have h:(prog.underlying 254).map (·.isRow)=some true:=by kernel_rfl
 let ⟨d,j,g⟩:=Option.map_eq_some_iff.1 h
 exact⟨d,j,g⟩
theorem qo:(prog.info? 254).map (·.size)=some 6:=by kernel_rfl
theorem xV(hd:d<=24)(hB:tR (d+1)):wh d:=by
 intro s b S w a0 h d1;let ⟨e7,f0,f4⟩:=uj
 have f2:prog.follows .mixedOrders=true:=by kernel_rfl
 let ⟨k,sl,sc,Z,Y,V,J,sb,se,b6,e6,d3,b9⟩:=s
 obtain⟨p0,-⟩:=h.parts;obtain⟨R,A⟩:=eX (jv ah (.mk k sl sc Z Y V J sb se b6 e6 d3 b9) d);rw[A];unfold jv at A;have HH:=O h;by_cases g1:k<=0
 .have N:R=false:=by rw[<-A,dv (p:=1<=k) (by omega)];simp
  subst N;clear h;go_enter func147,ntmps147;go_wp2;go_ret;exact⟨z,FB _ w⟩
 by_cases f9:16<=k
 .have N:R=false:=by rw[<-A,dv (p:=k<=15) (by omega)];simp
  subst N;clear h;go_enter func147,ntmps147;go_wp2;go_ret;exact⟨z,FB _ w⟩
 obtain⟨j,rfl⟩:∃j:Nat,k=(j:Int):=⟨k.toNat,by omega⟩;have f1:1<=j:=by omega
 have f3:j<16:=by omega
 have a2:=a0 j f1 f3;unfold Bl at a2;rw[eP (p:=(1:Int)<=(j:Int)) (by omega),eP (p:=(j:Int)<=15) (by omega),eP hd]at A;simp only[Bool.and_self,Gx]at A;rw[show (if (j:Int)=3 then de ah J 24 else iB J)=(if decide ((j:Int)=3)=true then de ah J 24 else iB J) by simp]at A;obtain⟨b0,e0⟩:=eX (ov (j:Int));obtain⟨b1,e1⟩:=eX (nu (j:Int));obtain⟨b2,e2⟩:=eX (jn (j:Int));obtain⟨b3,e3⟩:∃b,decide ((j:Int)=3)=b:=⟨_,z⟩;obtain⟨E,e4⟩:∃b,(decide ((j:Int)=4)||decide ((j:Int)=5))=b:=⟨_,z⟩;obtain⟨F,e5⟩:∃b,decide ((j:Int)=4)=b:=⟨_,z⟩;rw[e4]at a2 A;rw[e0,e1,e2,e3,e5]at a2 A;unfold St.nb at d1;let ⟨d2,d7,d8,d6,d4,d0⟩:=d1
 obtain⟨m1,a9⟩:∃m,(if b0=true then ah Z else decide (Z=aq))=m:=⟨_,z⟩;obtain⟨m2,a7⟩:∃m,(if b1=true then ah Y else decide (Y=aq))=m:=⟨_,z⟩;obtain⟨m3,a4⟩:∃m,(if b3=true then de ah J 24 else iB J)=m:=⟨_,z⟩;obtain⟨m4,a5⟩:∃m,(if b2=true then de ah V 24 else iB V)=m:=⟨_,z⟩;obtain⟨mb,a8⟩:=eX (bB ah sb (d+1));obtain⟨me,a6⟩:=eX (bB ah se (d+1));rw[a9,a7,a4,a5,a8,a6]at A;have c1:∀W,Jq prog 169 #[.string Z,.bool b0] W fun e w'=>e= .returned (.bool m1)/\FM W.1.size W w':=fun W=>by have:=aZ Z b0 W d2;rwa [a9]at this
 have c2:∀W,Jq prog 169 #[.string Y,.bool b1] W fun e w'=>e= .returned (.bool m2)/\FM W.1.size W w':=fun W=>by have:=aZ Y b1 W d7;rwa [a7]at this
 have c3:∀W,dY W b (S+12) J->Jq prog 170 #[.pointer (some (ad b (S+12))),.bool b3] W fun e w'=>e= .returned (.bool m3)/\FM W.1.size W w':=fun W hx=>by have:=jf J b3 b (S+12) W hx d6;rwa [a4]at this
 have c4:∀W,dY W b (S+5) V->Jq prog 170 #[.pointer (some (ad b (S+5))),.bool b2] W fun e w'=>e= .returned (.bool m4)/\FM W.1.size W w':=fun W hx=>by have:=jf V b2 b (S+5) W hx d8;rwa [a5]at this
 have HC:=O (EQ c1 (EQ c2 (EQ c3 c4)));have HM:=O (EQ a8 a6);have c9:=O (EQ d4 d0);have HR:=O A;have f6:=O a0;have f5:=O a2;have f7:(0:Int)<=(j:Int):=by omega
 have f8:(j:Int)<16:=by omega
 clear e0 e1 e2 e3 e4 e5 a9 a7 a4 a5 a8 a6 d8 d6 d4 d0 c1 c2 c3 c4 A h a0 a2 d2 d7;go_enter func147,ntmps147;refine wk fun C H=>?_;go_wp2;apply H;clear H C;refine wk fun C H=>?_;go_wp2;apply H;clear H C;refine wk fun C H=>?_
 go_wp2_with (first| ((with_reducible refine gU _ (.load 254 _) ?_);refine Gn z 254 (.tmp 22) z 1 (j*6) z [.bool b0,.bool b1,.bool b2,.bool b3,.bool E,.bool F] e7 f5.o f0 f4 qo ?_)| ((with_reducible refine cY (.store 254 _ _) ?_);refine bf qo z (.tmp 5) (.tmp 23) z w [.bool false,.bool false,.bool false,.bool false,.bool false,.bool false] [.bool b0,.bool b1,.bool b2,.bool b3,.bool E,.bool F] z z z (by intro v hv;simp only[List.mem_cons,List.not_mem_nil,or_false]at hv;rcases hv with rfl|rfl|rfl|rfl|rfl|rfl<;>rfl) _ z z z ?_));obtain⟨q,X⟩:∃q,w.1.size=q:=⟨_,z⟩;have a3:ak (w.alloc (.cells #[.bool b0,.bool b1,.bool b2,.bool b3,.bool E,.bool F] 254)) q 254 [.bool b0,.bool b1,.bool b2,.bool b3,.bool E,.bool F]:=by rw[<-X];exact ak.new w 254 _
 have d9:FM q w (w.alloc (.cells #[.bool b0,.bool b1,.bool b2,.bool b3,.bool E,.bool F] 254)):=by rw[<-X];exact(FB _ w).alloc (FL _) _
 have b7:=HH.o.below (show FM w.1.size w (w.alloc (.cells #[.bool b0,.bool b1,.bool b2,.bool b3,.bool E,.bool F] 254)) from(FB _ w).alloc (FL _) _);have b8:=f6.o.below (show FM w.1.size w (w.alloc (.cells #[.bool b0,.bool b1,.bool b2,.bool b3,.bool E,.bool F] 254)) from(FB _ w).alloc (FL _) _);rw[X];have HP:=O p0;clear p0;generalize w.alloc (.cells #[.bool b0,.bool b1,.bool b2,.bool b3,.bool E,.bool F] 254)=D at *;have hC:∀W,FM D.1.size D W->gy W b S (.mk j sl sc Z Y V J sb se b6 e6 d3 b9)/\ak W q 254 [.bool b0,.bool b1,.bool b2,.bool b3,.bool E,.bool F]/\oA W/\FM q w W:=fun W U=>⟨b7.below U,a3.below U,b8.below U,d9.trans (U.mono (Nat.le_of_lt a3.lt))⟩;have Q:=O hC;clear b7 b8 a3 d9 hC;apply H;clear H C
 refine wk fun C H=>?_;go_wp2;apply al [] (fun W=>FM D.1.size D W) f2;have g:Hid (FM D.1.size D D.drew):=O ((FB _ D).drew);refine tb 0 g ?_;refine tb 1 g ?_;refine tb 2 g ?_;refine fO 3 (v:=?v3) z (by kernel_rfl) (by kernel_rfl) (by kernel_rfl) (by kernel_rfl) (by kernel_rfl) (fun _ _ _ h=>h) g (Or.inl ⟨by rfl,?h3⟩) ?_;case h3=> intro G K;obtain⟨-,-,-,p3,p4,-⟩:=(Q G K).1.parts;clear p4;clear K;go_simp;with_reducible rfl
 refine tb 4 g ?_;refine tg _ 5 g (fun G K=> (Q G K).2.1.cell 0) ?_;refine tn 6 fun C M=>?_;go_simp;apply (HC.1 _).mono;rintro e G ⟨rfl,d5⟩;have g:Hid (FM D.1.size D G):=O (g.trans (d5.mono g.size));clear d5;cases m1
 .apply M _ _ (fun _=>g);clear M C;refine t0 7 g ?_;refine t0 8 g ?_;refine tu 9 g ?_;refine tu 10 g ?_;refine tu 11 g ?_;refine tu 12 g ?_;refine tu 13 g ?_;refine tu 14 g ?_;refine tu 15 g ?_;refine tu 16 g ?_;refine t0 17 g ?_;refine dn ?_;have N:R=false:=by rw[<-HR.o];simp
  subst N;have a1:=(Q G g).2.2.2;rw[<-X]at a1;go_wp2;go_ret;exact⟨z,a1⟩
 apply M _ _ (fun _=>g);clear M C;refine t0 7 g ?_;refine t0 8 g ?_;refine tb 9 g ?_;refine tb 10 g ?_;refine tb 11 g ?_;refine fO 12 (v:=?v12) z (by kernel_rfl) (by kernel_rfl) (by kernel_rfl) (by kernel_rfl) (by kernel_rfl) (fun _ _ _ h=>h) g (Or.inl ⟨by rfl,?h12⟩) ?_;case h12=> intro G K;obtain⟨-,-,-,p3,p4,-⟩:=(Q G K).1.parts;clear p3;clear K;go_simp;with_reducible rfl
 refine tb 13 g ?_;refine tg _ 14 g (fun G K=> (Q G K).2.1.cell 1) ?_;refine tn 15 fun C M=>?_;go_simp;apply (HC.2.1 _).mono;rintro e W2 ⟨rfl,c8⟩;have g:Hid (FM D.1.size D W2):=O (g.trans (c8.mono g.size));clear c8;cases m2
 .apply M _ _ (fun _=>g);clear M C;refine t0 16 g ?_;refine t0 17 g ?_;refine dn ?_;have N:R=false:=by rw[<-HR.o];simp
  subst N;have a1:=(Q W2 g).2.2.2;rw[<-X]at a1;go_wp2;go_ret;exact⟨z,a1⟩
 apply M _ _ (fun _=>g);clear M C;refine t0 16 g ?_;refine t0 17 g ?_;refine dn ?_;have e8:R=(m3&& (m4&& ((E||decide (sb.length=0))&& ((F||decide (se.length=0))&& (mb&&me))))):=by rw[<-HR.o];simp
 subst e8;clear HR;let ⟨hs,e9,a0,U⟩:=Q W2 g
 rw[<-X]at U;go_wp2;exact H _ _ (BE hd hB hs e9 a0 U c9.1 c9.2 HM.1 HM.2 HC.2.2.1 HC.2.2.2)
theorem yC:∀ (m d:Nat),d+m=25->tR d:=by
 intro m;induction m with
 |zero=>
  intro d hd;exact oq (by omega) (fun h=>absurd h (by omega))
 |succ m g=> intro d hd;exact oq (by omega) (fun h=>xV h (g (d+1) (by omega)))
def qO(w:Fk)(b off:Nat)(d:De):Prop:=∃cs:List Fr,w.rangeAt b off cs/\fS (fun _=>True) w cs d
theorem qO.parts{k l c:Int}{n:Int}{body:List St}(h:qO w b j ⟨k,l,c,s,n,body⟩):
  w.cell? (ad b j)=some (I k)/\w.cell? (ad b (j+3))=some (.string s)/\w.cell? (ad b (j+4))=some (I n)/\∃a cap,w.cell? (ad b (j+5))=some (.slice a body.length cap)/\eK w a cap body:=by
 obtain⟨cs,g,a,cap,rfl,A,C⟩:=h;exact⟨g 0 _ z,g 3 _ z,g 4 _ z,a,cap,g 5 _ z,A,C⟩
theorem qO.below{w':Fk}{d:De}(h:qO w b g d)(G:bL w w'):qO w' b g d:=by
 have C:∀ (b o:Nat) (v:Fr),w.cell? (ad b o)=some v->w'.cell? (ad b o)=some v:=fun b o v A=>by rw[<-A];simp[FI,G.block b (FF w _ A)]
 let ⟨cs,H,a,cap,F,E,D⟩:=h
 exact⟨cs,fun j v A=>C _ _ _ (H j v A),a,cap,F,E,aE.keep (fun b o v _ A=>C b o v A) D⟩
def os(d:De):Prop:=∀ (b off:Nat) (w:Fk),oA w->qO w b off d->d.nb->Jq prog 78 #[.pointer (some ⟨b,off,none⟩)] w fun e w'=>e= .returned (.bool (fI ah d))/\FM w.1.size w w'
theorem BK{l c:Int}{n:Int}{body:List St}:os ⟨1,l,c,s,n,body⟩:=by
 intro b a5 w F h J;let ⟨R,A⟩:=eX (fI ah ⟨1,l,c,s,n,body⟩)
 rw[A];unfold fI at A;dsimp only at A;obtain⟨S,U,-⟩:=h.parts;let ⟨m,W⟩:=eX (ah s)
 have N:=eq s w J.1;rw[W]at A N;have X:=O (EQ h (EQ F J.2));let ⟨H,K⟩:=eX (body.length)
 rw[K]at A;have Z:=O K;have E:=O A;clear A W h F J K;go_in;go_wp2_with fail;apply N.mono;rintro e w1 ⟨rfl,j⟩;let ⟨h,F,a4⟩:=X
 have C:=h.below j;have D:=F.below j;clear N S U h F X;let ⟨S,U,p4,a,cap,Y,G⟩:=C.parts
 rw[Z.o]at Y;cases m
 .have g:R=false:=by rw[<-E.o];simp
  subst g;clear C D G;go_wp2;go_ret;exact⟨z,j⟩
 rcases bq H 0 with M|M
 .have a0:=M;have a3:0<H:=by omega
  have a1:(0:Int)< (H:Int):=by omega
  have g:R=false:=by rw[<-E.o];simp[a0]
  subst g;clear C D G;go_wp2;go_ret;exact⟨z,j⟩
 subst M;by_cases V: -2147483647<=n
 .by_cases Q:n<=2147483647
  .skip;have g:R=true:=by rw[<-E.o];simp[V,Q]
   subst g;clear C D G;go_wp2;go_ret;exact⟨z,j⟩
  .have a2:=dv Q;have g:R=false:=by rw[<-E.o];simp[Q]
   subst g;clear C D G;go_wp2;go_ret;exact⟨z,j⟩
 .skip;have g:R=false:=by rw[<-E.o];simp[V]
  subst g;clear C D G;go_wp2;go_ret;exact⟨z,j⟩
theorem Bi{l c:Int}{n:Int}{body:List St}:os ⟨2,l,c,s,n,body⟩:=by
 intro b a5 w F h J;let ⟨R,A⟩:=eX (fI ah ⟨2,l,c,s,n,body⟩)
 rw[A];unfold fI at A;dsimp only at A;obtain⟨S,U,-⟩:=h.parts;let ⟨m,W⟩:=eX (ah s)
 have N:=eq s w J.1;rw[W]at A N;have X:=O (EQ h (EQ F J.2));let ⟨H,K⟩:=eX (body.length)
 rw[K]at A;have Z:=O K;have E:=O A;clear A W h F J K;go_in;go_wp2_with fail;apply N.mono;rintro e w1 ⟨rfl,j⟩;let ⟨h,F,a4⟩:=X
 have C:=h.below j;have D:=F.below j;clear N S U h F X;let ⟨S,U,p4,a,cap,Y,G⟩:=C.parts
 rw[Z.o]at Y;cases m
 .have g:R=false:=by rw[<-E.o];simp
  subst g;clear C D G;go_wp2;go_ret;exact⟨z,j⟩
 rcases bq H 0 with M|M
 .have a0:=M;have a3:0<H:=by omega
  have a1:(0:Int)< (H:Int):=by omega
  have g:R=false:=by rw[<-E.o];simp[a0]
  subst g;clear C D G;go_wp2;go_ret;exact⟨z,j⟩
 subst M;by_cases V:0<=n
 .by_cases Q:n<=2147483647
  .skip;have g:R=true:=by rw[<-E.o];simp[V,Q]
   subst g;clear C D G;go_wp2;go_ret;exact⟨z,j⟩
  .have a2:=dv Q;have g:R=false:=by rw[<-E.o];simp[Q]
   subst g;clear C D G;go_wp2;go_ret;exact⟨z,j⟩
 .skip;have g:R=false:=by rw[<-E.o];simp[V]
  subst g;clear C D G;go_wp2;go_ret;exact⟨z,j⟩
theorem BA{l c:Int}{n:Int}{body:List St}:os ⟨3,l,c,s,n,body⟩:=by
 intro b a4 w D h K;let ⟨R,j⟩:=eX (fI ah ⟨3,l,c,s,n,body⟩)
 rw[j];unfold fI at j;dsimp only at j;obtain⟨S,U,-⟩:=h.parts;let ⟨m,V⟩:=eX (ah s)
 have Q:=eq s w K.1;rw[V]at j Q;have W:=O (EQ h (EQ D K.2));let ⟨G,M⟩:=eX (body.length)
 rw[M]at j;have Y:=O M;have H:=O j;clear j V h D K M;go_in;go_wp2_with fail;apply Q.mono;rintro e w1 ⟨rfl,A⟩;let ⟨h,D,a2⟩:=W
 have C:=h.below A;have E:=D.below A;clear Q S U h D W;let ⟨S,U,p4,a,cap,X,J⟩:=C.parts
 rw[Y.o]at X;cases m
 .have g:R=false:=by rw[<-H.o];simp
  subst g;clear C E J;go_wp2;go_ret;exact⟨z,A⟩
 rcases bq G 0 with N|N
 .have Z:=N;have a1:0<G:=by omega
  have a0:(0:Int)< (G:Int):=by omega
  have g:R=false:=by rw[<-H.o];simp[Z]
  subst g;clear C E J;go_wp2;go_ret;exact⟨z,A⟩
 subst N;rcases bq n 0 with F|F
 .have a3:(n==0)=false:=by simpa using F
  have g:R=false:=by rw[<-H.o];simp[F]
  subst g;clear C E J;go_wp2;go_ret;exact⟨z,A⟩
 subst F;have g:R=true:=by rw[<-H.o];simp
 subst g;clear C E J;go_wp2;go_ret;exact⟨z,A⟩
theorem Cl{l c:Int}{n:Int}{body:List St}:os ⟨4,l,c,s,n,body⟩:=by
 intro b a4 w D h K;let ⟨R,j⟩:=eX (fI ah ⟨4,l,c,s,n,body⟩)
 rw[j];unfold fI at j;dsimp only at j;obtain⟨S,U,-⟩:=h.parts;let ⟨m,V⟩:=eX (ah s)
 have Q:=eq s w K.1;rw[V]at j Q;have W:=O (EQ h (EQ D K.2));let ⟨G,M⟩:=eX (body.length)
 rw[M]at j;have Y:=O M;have H:=O j;clear j V h D K M;go_in;go_wp2_with fail;apply Q.mono;rintro e w1 ⟨rfl,A⟩;let ⟨h,D,a2⟩:=W
 have C:=h.below A;have E:=D.below A;clear Q S U h D W;let ⟨S,U,p4,a,cap,X,J⟩:=C.parts
 rw[Y.o]at X;cases m
 .have g:R=false:=by rw[<-H.o];simp
  subst g;clear C E J;go_wp2;go_ret;exact⟨z,A⟩
 rcases bq G 0 with N|N
 .have Z:=N;have a1:0<G:=by omega
  have a0:(0:Int)< (G:Int):=by omega
  have g:R=false:=by rw[<-H.o];simp[Z]
  subst g;clear C E J;go_wp2;go_ret;exact⟨z,A⟩
 subst N;rcases bq n 0 with F|F
 .have a3:(n==0)=false:=by simpa using F
  have g:R=false:=by rw[<-H.o];simp[F]
  subst g;clear C E J;go_wp2;go_ret;exact⟨z,A⟩
 subst F;have g:R=true:=by rw[<-H.o];simp
 subst g;clear C E J;go_wp2;go_ret;exact⟨z,A⟩
theorem BO{l c:Int}{n:Int}{body:List St}:os ⟨5,l,c,s,n,body⟩:=by
 intro b a5 w F h J;let ⟨R,A⟩:=eX (fI ah ⟨5,l,c,s,n,body⟩)
 rw[A];unfold fI at A;dsimp only at A;obtain⟨S,U,-⟩:=h.parts;let ⟨m,W⟩:=eX (ah s)
 have N:=eq s w J.1;rw[W]at A N;have X:=O (EQ h (EQ F J.2));let ⟨H,K⟩:=eX (body.length)
 rw[K]at A;have Z:=O K;have E:=O A;clear A W h F J K;go_in;go_wp2_with fail;apply N.mono;rintro e w1 ⟨rfl,j⟩;let ⟨h,F,a4⟩:=X
 have C:=h.below j;have D:=F.below j;clear N S U h F X;let ⟨S,U,p4,a,cap,Y,G⟩:=C.parts
 rw[Z.o]at Y;cases m
 .have g:R=false:=by rw[<-E.o];simp
  subst g;clear C D G;go_wp2;go_ret;exact⟨z,j⟩
 rcases bq H 0 with M|M
 .have a0:=M;have a3:0<H:=by omega
  have a1:(0:Int)< (H:Int):=by omega
  have g:R=false:=by rw[<-E.o];simp[a0]
  subst g;clear C D G;go_wp2;go_ret;exact⟨z,j⟩
 subst M;by_cases V:0<=n
 .by_cases Q:n<=2147483647
  .skip;have g:R=true:=by rw[<-E.o];simp[V,Q]
   subst g;clear C D G;go_wp2;go_ret;exact⟨z,j⟩
  .have a2:=dv Q;have g:R=false:=by rw[<-E.o];simp[Q]
   subst g;clear C D G;go_wp2;go_ret;exact⟨z,j⟩
 .skip;have g:R=false:=by rw[<-E.o];simp[V]
  subst g;clear C D G;go_wp2;go_ret;exact⟨z,j⟩
theorem Bw{l c:Int}{n:Int}{body:List St}:os ⟨6,l,c,s,n,body⟩:=by
 intro b a3 w A h J;let ⟨R,j⟩:=eX (fI ah ⟨6,l,c,s,n,body⟩)
 rw[j];unfold fI at j;dsimp only at j;obtain⟨S,V,-⟩:=h.parts;let ⟨m,Y⟩:=eX (ah s)
 have N:=eq s w J.1;rw[Y]at j N;have Z:=O (EQ h (EQ A J.2));let ⟨nB,K⟩:=eX (body.length)
 rw[K]at j;have U:=O K;have G:=O j;clear j Y h A J K;go_in;go_wp2_with fail;apply N.mono;rintro e w1 ⟨rfl,g⟩;let ⟨h,A,X⟩:=Z
 have F:=h.below g;have C:=A.below g;clear N S V h A Z;let ⟨S,V,p4,a,cap,p5,H⟩:=F.parts
 rw[U.o]at p5;cases m
 .have Q:R=false:=by rw[<-G.o];simp
  subst Q;clear F C H;go_wp2;go_ret;exact⟨z,g⟩
 rcases bq n 0 with D|D
 .have a2:(n==0)=false:=by simpa using D
  have Q:R=false:=by rw[<-G.o];simp[D]
  subst Q;clear F C H;go_wp2;go_ret;exact⟨z,g⟩
 subst D;let ⟨mb,M⟩:=eX (bB ah body 1)
 have E:=yC 24 1 (by decide) body a cap w1 C H X;rw[M,U.o]at E;have e1:((1:Nat):Int)=1:=z;rw[e1]at E;have a1:R=mb:=by rw[<-G.o,M];simp
 subst a1;clear F C H M G e1 X;go_wp2_with fail;apply E.mono;rintro e w2 ⟨rfl,W⟩;have a0:=g.trans (W.mono g.size);clear E W g;go_wp2;go_ret;exact⟨z,a0⟩
theorem sA{k l c:Int}{n:Int}{body:List St}(X:k≠1)(V:k≠2)(h3:k≠3)(W:k≠4)(a5:k≠5)(F:k≠6):os ⟨k,l,c,s,n,body⟩:=by
 intro b a4 w C h H;let ⟨R,g⟩:=eX (fI ah ⟨k,l,c,s,n,body⟩)
 rw[g];unfold fI at g;dsimp only at g;obtain⟨S,Y,-⟩:=h.parts;let ⟨m,Z⟩:=eX (ah s)
 have M:=eq s w H.1;rw[Z]at g M;have U:=O (EQ h (EQ C H.2));let ⟨D,J⟩:=eX (body.length)
 rw[J]at g;have HN:=O J;have N:=O g;clear g Z h C H J;have k6:(k !=6)=true:=by simpa using F
 have e1:(k==1)=false:=by simpa using X
 have e2:(k==2)=false:=by simpa using V
 have e3:(k==3)=false:=by simpa using h3
 have e4:(k==4)=false:=by simpa using W
 have e5:(k==5)=false:=by simpa using a5
 have e6:(k==6)=false:=by simpa using F
 go_in;go_wp2_with fail;apply M.mono;rintro e w1 ⟨rfl,j⟩;let ⟨h,C,a3⟩:=U
 have E:=h.below j;have G:=C.below j;clear M S Y h C U;let ⟨S,Y,p4,a,cap,p5,Q⟩:=E.parts
 rw[HN.o]at p5;cases m
 .have A:R=false:=by rw[<-N.o];simp
  subst A;clear E G Q;go_wp2;go_ret;exact⟨z,j⟩
 rcases bq D 0 with K|K
 .have a0:=K;have a2:0<D:=by omega
  have a1:(0:Int)< (D:Int):=by omega
  have A:R=false:=by rw[<-N.o];simp[F,a0]
  subst A;clear E G Q;go_wp2;go_ret;exact⟨z,j⟩
 subst K;have A:R=false:=by rw[<-N.o];simp[X,V,h3,W,a5,F]
 subst A;clear E G Q;go_wp2;go_ret;exact⟨z,j⟩
theorem nH(d:De):os d:=by
 let ⟨k,l,c,s,n,body⟩:=d
 by_cases A:k=1
 .subst A;exact BK
 by_cases w:k=2
 .subst w;exact Bi
 by_cases j:k=3
 .subst j;exact BA
 by_cases g:k=4
 .subst g;exact Cl
 by_cases D:k=5
 .subst D;exact BO
 by_cases C:k=6
 .subst C;exact Bw
 exact sA A w j g D C
theorem qI{nm:ByteArray->Bool}{l:List De}(h:i<l.length):co nm (l.drop i)=(fI nm (l.getD i default)&&co nm (l.drop (i+1))):=by unfold co;rw[FZ h,List.all_cons];simp[FD,h]
theorem lP(l:List De)(a:Option Addr)(cap:Nat)(w:Fk)(S:aF l.length cap)(a3:oA w)(h:cQ (fun _=>True) w a l)(Z:∀d∈l,d.nb):
  Jq prog 34 #[.slice a l.length cap] w fun e w'=>e= .returned (I (if co ah l=true then 0 else 2))/\bL w w':=by
 let ⟨R,A⟩:=eX (co ah (l.drop 0))
 rw[show co ah l=R from A];let ⟨g,Q⟩:=eX (l.length)
 rw[Q]at S ⊢;have K:=O Q;have E:=O A;have HB:=O Z;have C:=O (EQ (FB w.1.size w) (EQ h a3));obtain⟨v,H⟩:∃v:Int,(if R=true then 0 else 2)=v:=⟨_,z⟩;rw[H];have X:=O H;clear Q A Z h a3 H;go_in;go_wp2;go_loopg [6] g (fun x iv wr=>∃i:Nat,i<=g/\x=g-i/\iv=I i/\Hid (bL w wr/\cQ (fun _=>True) wr a l/\oA wr)/\Hid (co ah (l.drop i)=R));case atStart=>exact⟨0,FX _,z,z,C,E⟩
 case round=>
  clear C E;obtain⟨i,hi,rfl,rfl,C,E⟩:=hrel;let ⟨J,D,F⟩:=C
  by_cases U:i<g
  .have a7:(i:Int)< (g:Int):=by omega
   have a9:(0:Int)<=(i:Int):=by omega
   have b4:(i:Int)+1<=9223372036854775807:=by have D:=S.1;have h2:=S.2;omega
   have A:=E.o;rw[qI (by rw[K.o];exact U)]at A;obtain⟨b2,a5,cs,rfl,-,Y,a4⟩:=D i (by rw[K.o];exact U);have a0:l.getD i default∈l:=by rw[FD,FC (by rw[K.o];exact U)];exact Gy _
   have M:=nH (l.getD i default) b2 (a5+i*6) wr F ⟨cs,fun j v H=>Y j v H,a4⟩ (HB _ a0);let ⟨m,hm⟩:=eX (fI ah (l.getD i default))
   rw[hm]at M A;have N:=O A;clear Y a4 hm A E a0;go_wp2_with fail;apply M.mono;rintro e w2 ⟨rfl,G⟩;have W:=J.trans (G.mono J.size);cases m
   .have a2:R=false:=N.symm;have V:v=2:=by rw[<-X.o,a2];rfl
    subst V;clear C M D J G F a2 N;go_wp2;go_ret;exact⟨z,W⟩
   .have a6:Hid (co ah (l.drop (i+1))=R):=O N;have a8:=O (EQ W (EQ (cQ.below D G) (F.below G)));clear C M D J G W N F;go_wp2;go_roundg (g- (i+1));case measure=>omega
    case rel=>exact⟨i+1,by omega,z,z,a8,a6⟩
  .obtain rfl:i=g:=by omega
   have a7:¬ (i:Int)< (i:Int):=by omega
   have a1:R=true:=by rw[<-E.o,Gw (by rw[K.o];exact FL _)];rfl
   have V:v=0:=by rw[<-X.o,a1];rfl
   subst V;clear D C F a1;go_wp2;go_ret;exact⟨z,J⟩
theorem fB(s:ByteArray)(w:Fk)(a4:s.size<=9223372036854775807):Jq prog 43 #[.string s] w fun e w'=>e= .returned (.bool (ah s))/\bL w w':=by
 by_cases M:s.size=0
 .have a3:(s.size:Int)<1:=by omega
  rw[show ah s=false by unfold ah;rw[dv (by omega)];rfl];clear M;go_in;go_wp2;go_ret;exact⟨z,FB _ _⟩
 .have j:0<s.size:=by omega
  have a3:¬ (s.size:Int)<1:=by omega
  by_cases C:s.size<=16
  .have a2:¬ (16:Int)< (s.size:Int):=by omega
   have a5:(0:Int)< (s.size:Int):=by omega
   have W:=bI j;let ⟨c,Q⟩:=eX (aO s 0)
   rw[Q]at W;let ⟨q,E⟩:=eX (bw c)
   let ⟨g,K⟩:=eX (dZ s.data.toList)
   let ⟨R,D⟩:=eX (ah s)
   rw[D];have Z:R=(q&& (s.data.toList.all aH&&!g)):=by rw[<-D];unfold ah;rw[eP j,eP C,Q,E,K];rfl
   have A:=O Z;have cl:=gN c w;rw[E]at cl;have H:=hS s w;rw[K]at H;clear D Z Q E M K;go_in;go_wp2_with fail;apply cl.mono;rintro e w' ⟨rfl,rfl⟩;cases q
   .obtain rfl:R=false:=A;go_wp2;go_ret;exact⟨z,FB _ _⟩
   .clear cl W;go_wp2_with fail;apply H.mono;rintro e w1 ⟨rfl,G⟩;clear H;cases g
    .go_wp2;go_loopw [3] (fun i wr=>∃k:Nat,k<=s.size/\i=I k/\w1=wr/\Hid ((s.data.toList.drop k).all aH=R)) (fun i _=>s.size- (intOf i).toNat);case atStart=>exact⟨0,by omega,z,z,O (by rw[A.o];simp)⟩
     case round=>
      obtain⟨k,hk,rfl,rfl,V⟩:=hrel;by_cases a0:k<s.size
      .have hz:(k:Int)< (s.size:Int):=by omega
       have a1:=bI a0;let ⟨d,hd⟩:=eX (aO s k)
       have F:=dp a0;rw[hd]at a1 F;let ⟨X,N⟩:=eX (bw d)
       let ⟨q2,U⟩:=eX (aK d)
       have c1:=gN d w1;have c2:=ff d w1;rw[N]at c1;rw[U]at c2;have Y:((X||q2)&& (s.data.toList.drop (k+1)).all aH)=R:=by rw[<-V.o,F,List.all_cons];unfold aH;rw[N,U]
       have S:=O Y;clear N U hd F Y;go_wp2_with fail;apply c1.mono;rintro e w' ⟨rfl,rfl⟩;cases X
       .go_wp2_with fail;apply c2.mono;rintro e w' ⟨rfl,rfl⟩;cases q2
        .obtain rfl:R=false:=by rw[<-S.o];rfl
         go_wp2;go_ret;exact⟨z,G⟩
        .have J:=O (show (s.data.toList.drop (k+1)).all aH=R by rw[<-S.o];rfl);go_wp2;go_roundw;case rel=>exact⟨k+1,by omega,by go_num,trivial,J⟩
         case measure=>simp[intOf];omega
       .have J:=O (show (s.data.toList.drop (k+1)).all aH=R by rw[<-S.o];rfl);go_wp2;go_roundw;case rel=>exact⟨k+1,by omega,by go_num,trivial,J⟩
        case measure=>simp[intOf];omega
      .obtain rfl:k=s.size:=by omega
       obtain rfl:R=true:=by rw[<-V.o,Gw (by rw[ci];exact FL _)];rfl
       go_wp2;go_ret;exact⟨z,G⟩
    .obtain rfl:R=false:=by rw[A.o];simp
     go_wp2;go_ret;exact⟨z,G⟩
  .have a2:(16:Int)< (s.size:Int):=by omega
   rw[show ah s=false by unfold ah;rw[eP j,dv C];rfl];clear M C j;go_in;go_wp2;go_ret;exact⟨z,FB _ _⟩
def ml(d:Nat):Prop:=∀ (x:Ex) (cs:List Fr) (w:Fk),x.nb->ExL (fun _=>True) w cs x->Jq prog 122 #[.agg cs.toArray,.int .i64 (d:Int)] w fun e w'=>e= .returned (.bool (de ah x d))/\FM w.1.size w w'
theorem ej{z ar:Nat}{ok:Bool}{k n:Int}{sl:Int}{lo:Bool}{cap:Nat}{args:List Ex}(hd:d<=24)(b9:ar<=2)(ih:ml d)(M:bL w W)(K:ak W z 58 [I k,I n,.string s,I sl,.bool lo,I p0,.slice a args.length cap])(a2:dT W a args)(b7:aF args.length cap)(a0:Ex.DJ args)(hU:l2.length=96:=by rfl):
  FR prog (Jp 4 (f122.body.getD .skip)) (Gb prog f122 (fun e w'=>e= .returned (.bool (ok&& (decide (args.length=ar)&&di ah args d)))/\bL w w')) ⟨(v0::I ((d+1:Nat):Int)::Pt z::v1::v2::I ar:: .bool ok::l2).toArray,[]⟩ W:=by
 revert l2;apply aN;iterate 96 intro _
 change FR _ _ _ _ _;let ⟨a5,a7,a8⟩:=gf
 let ⟨g,S⟩:=eX (args.length)
 let ⟨R,C⟩:=eX (di ah (args.drop 0) d)
 rw[show di ah args d=R from C];rw[S]at K b7 ⊢;have N:=O S;have E:=O C;have A:=O (EQ M (EQ K a2));have b6:=O a0;have D:=K.cell 6;simp only[FH,FE]at D;clear S C K a2 a0;cases ok
 .rw[HD];conv in (Jp _ _)=>whnf
  clear A D;go_wp2;go_ret;exact⟨rfl,M⟩
 rw[Gx];rcases bq g ar with Z|Z
 .rw[dv Z,HD];conv in (Jp _ _)=>whnf
  have c8:¬ (g:Int)=(ar:Int):=by omega
  clear A;go_wp2;go_ret;exact⟨rfl,M⟩
 subst Z;rw[eP rfl,Gx];conv in (Jp _ _)=>whnf
 clear M;go_wp2;clear D;go_loopg [7] g (fun x iv wr=>∃i:Nat,i<=g/\x=g-i/\iv=I i/\Hid (bL w wr/\ak wr z 58 [I k,I n,.string s,I sl,.bool lo,I p0,.slice a g cap]/\dT wr a args)/\Hid (di ah (args.drop i) d=R));case atStart=>exact⟨0,FX _,rfl,rfl,A,E⟩
 case round=>
  clear A E;obtain⟨i,hi,rfl,rfl,A,E⟩:=hrel;let ⟨G,H,J⟩:=A
  have D:=H.cell 6;simp only[FH,FE]at D;by_cases X:i<g
  .have b8:(i:Int)< (g:Int):=by omega
   have d0:(0:Int)<=(i:Int):=by omega
   have d1:(i:Int)+1<=9223372036854775807:=by omega
   obtain⟨b2,a9,cs,rfl,hr,V⟩:=J.at (j:=i) (by rw[N.o];exact X);have a1:=Ex.DM b6 (j:=i) (by rw[N.o];exact X);have Q:=ih (args.getD i aT) cs wr a1 V;have hl:=V.cells.1;have c9:(((d+1:Nat):Int)-1)=(d:Int):=by omega
   have C:=E.o;rw[lw (by rw[N.o];exact X)]at C;let ⟨m,hm⟩:=eX (de ah (args.getD i aT) d)
   rw[hm]at Q C;have U:=O C;have b5:=O hr;have HL:=O hl;clear V a1 hr hl hm C E;go_wp2_with (with_reducible refine l0 58 ?_;refine Gn rfl 58 (.tmp 97) rfl b2 (a9+i*7) rfl cs a5 b5.o a7 a8 (by rw[HL.o];exact bC) ?_);apply Q.mono;rintro e w2 ⟨rfl,F⟩;have Y:=G.trans (F.mono G.size);cases m
   .have a3:R=false:=U.symm;subst a3;clear A Q D J H G F;go_wp2;go_ret;exact⟨rfl,Y⟩
   .have b4:Hid (di ah (args.drop (i+1)) d=R):=O U;have a4:=O (EQ Y (EQ (H.below F) (J.below F)));clear A Q D J H G F Y U;go_wp2;go_roundg (g- (i+1));case measure=>omega
    case rel=>exact⟨i+1,by omega,rfl,rfl,a4,b4⟩
  .obtain rfl:i=g:=by omega
   have b8:¬ (i:Int)< (i:Int):=by omega
   have a6:R=true:=by rw[<-E.o,Gw (by rw[N.o];exact FL _)];rfl
   subst a6;clear J H A D;go_wp2;go_ret;exact⟨rfl,G⟩
theorem Bz{n:Int}{sl:Int}{lo:Bool}{cap:Nat}{args:List Ex}(hd:d<=24)(Y:ml d)(a3:dT w a args)(a0:aF args.length cap)(hs:s.size<=9223372036854775807)(W:Ex.DJ args):
  Jq prog 122 #[.agg #[I 1,I n,.string s,I sl,.bool lo,I p0,.slice a args.length cap],I ((d+1:Nat):Int)] w fun e w'=>e= .returned (.bool (de ah (.mk 1 n s sl lo p0 args) (d+1)))/\FM w.1.size w w':=by
 obtain⟨R,D⟩:=eX (de ah (.mk 1 n s sl lo p0 args) (d+1));rw[D];rw[db]at D;have a8:¬ ((d+1:Nat):Int)<1:=by omega
 have Z:FM w.1.size w (w.alloc (.cells #[I 1,I n,.string s,I sl,.bool lo,I p0,.slice a args.length cap] 58)):=(FB _ w).alloc (FL _) _;have a2:=ak.new w 58 [I 1,I n,.string s,I sl,.bool lo,I p0,.slice a args.length cap];have a1:=a3.below Z;have E:=O Z;have C:=O (EQ a2 a1);clear Z a2 a1 a3;go_enter func122,ntmps122;refine wk fun j g=>?_;go_wp2;apply g;clear g j;obtain⟨z,F⟩:=eX w.1.size;rw[F]at C;generalize w.alloc (.cells #[I 1,I n,.string s,I sl,.bool lo,I p0,.slice a args.length cap] 58)=H at *;rw[F];have c0:=C.1.cell 0;have c1:=C.1.cell 1;have c2:=C.1.cell 2;have c5:=C.1.cell 5;simp only[FH,FE]at c0 c1 c2 c5;rcases bq s aq with M|M
 .have X:R=false:=by rw[<-D];simp[M]
  subst X;have a7:¬s.toList=[]:=fun e=>M (cG (e.trans bc.symm));have b4:s.toList.isEmpty=false:=by rw[eA];exact dv M
  clear D;go_wp2;go_ret;exact⟨rfl,F▸E.o⟩
 subst M;have a6:aq.toList=[]:=bc;have a5:aq.toList.isEmpty=true:=by rw[bc];rfl
 rcases bq p0 0 with U|U
 .have X:R=false:=by rw[<-D];simp[U]
  subst X;have a9:(p0 !=0)=true:=by simpa using U
  clear D;go_wp2;go_ret;exact⟨rfl,F▸E.o⟩
 subst U;have G:=O D;clear D;have a4:(0<=n/\n<=2147483647)∨¬0<=n∨(0<=n/\¬n<=2147483647):=by omega
 rcases a4 with ⟨S,V⟩|S|⟨S,V⟩
 .skip;have Q:R=(true&& (decide (args.length=0)&&di ah args d)):=by rw[<-G.o];simp[bs,dR,S,V]
  subst Q;clear G;refine wk fun j g=>?_;go_wp2;apply g;clear g j;refine wk fun j g=>?_;go_wp2;apply g;clear g j;refine wk fun j g=>?_;go_wp2_with fail;apply g;clear g j;have A:=FB H.1.size H;have J:=C.1.below A;have K:=C.2.below A;have N:=E.trans (A.mono E.size);subst F;exact ej (ok:=true) (ar:=0) hd (by decide) Y N J K a0 W
 .skip;have Q:R=(false&& (decide (args.length=0)&&di ah args d)):=by rw[<-G.o];simp[bs,dR,S]
  subst Q;clear G;refine wk fun j g=>?_;go_wp2;apply g;clear g j;refine wk fun j g=>?_;go_wp2;apply g;clear g j;refine wk fun j g=>?_;go_wp2_with fail;apply g;clear g j;have A:=FB H.1.size H;have J:=C.1.below A;have K:=C.2.below A;have N:=E.trans (A.mono E.size);subst F;exact ej (ok:=false) (ar:=0) hd (by decide) Y N J K a0 W
 .skip;have Q:R=(false&& (decide (args.length=0)&&di ah args d)):=by rw[<-G.o];simp[bs,dR,S,V]
  subst Q;clear G;have g3:2147483647<n:=by omega
  have g4:decide (n<=2147483647)=false:=dv V;refine wk fun j g=>?_;go_wp2;apply g;clear g j;refine wk fun j g=>?_;go_wp2;apply g;clear g j;refine wk fun j g=>?_;go_wp2_with fail;apply g;clear g j;have A:=FB H.1.size H;have J:=C.1.below A;have K:=C.2.below A;have N:=E.trans (A.mono E.size);subst F;exact ej (ok:=false) (ar:=0) hd (by decide) Y N J K a0 W
theorem BM{n:Int}{sl:Int}{lo:Bool}{cap:Nat}{args:List Ex}(hd:d<=24)(Y:ml d)(V:dT w a args)(a4:aF args.length cap)(hs:s.size<=9223372036854775807)(W:Ex.DJ args):
  Jq prog 122 #[.agg #[I 2,I n,.string s,I sl,.bool lo,I p0,.slice a args.length cap],I ((d+1:Nat):Int)] w fun e w'=>e= .returned (.bool (de ah (.mk 2 n s sl lo p0 args) (d+1)))/\FM w.1.size w w':=by
 obtain⟨R,j⟩:=eX (de ah (.mk 2 n s sl lo p0 args) (d+1));rw[j];rw[db]at j;have a6:¬ ((d+1:Nat):Int)<1:=by omega
 have K:FM w.1.size w (w.alloc (.cells #[I 2,I n,.string s,I sl,.bool lo,I p0,.slice a args.length cap] 58)):=(FB _ w).alloc (FL _) _;have S:=ak.new w 58 [I 2,I n,.string s,I sl,.bool lo,I p0,.slice a args.length cap];have N:=V.below K;have E:=O K;have C:=O (EQ S N);clear K S N V;go_enter func122,ntmps122;refine wk fun A g=>?_;go_wp2;apply g;clear g A;obtain⟨z,D⟩:=eX w.1.size;rw[D]at C;generalize w.alloc (.cells #[I 2,I n,.string s,I sl,.bool lo,I p0,.slice a args.length cap] 58)=V0 at *;rw[D];have c0:=C.1.cell 0;have c1:=C.1.cell 1;have c2:=C.1.cell 2;have c5:=C.1.cell 5;simp only[FH,FE]at c0 c1 c2 c5;rcases bq n 0 with G|G
 .have H:R=false:=by rw[<-j];simp[G]
  subst H;have a5:(n !=0)=true:=by simpa using G
  clear j;go_wp2;go_ret;exact⟨rfl,D▸E.o⟩
 subst G;rcases bq p0 0 with F|F
 .have H:R=false:=by rw[<-j];simp[F]
  subst H;have a7:(p0 !=0)=true:=by simpa using F
  clear j;go_wp2;go_ret;exact⟨rfl,D▸E.o⟩
 subst F;have U:=O j;clear j;have a1:R=(ah s&& (decide (args.length=0)&&di ah args d)):=by rw[<-U.o];simp[bs,dR]
 subst a1;clear U;have M:=fun a3=>fB s a3 hs;refine wk fun A g=>?_;go_wp2;apply g;clear g A;refine wk fun A g=>?_;go_wp2;apply g;clear g A;refine wk fun A g=>?_;go_wp2_with fail;apply (M _).mono;rintro e V1 ⟨rfl,Q⟩;have a2:=O Q;clear Q M;go_wp2_with fail;apply g;clear g A;have J:=a2.o;have X:=C.1.below J;have Z:=C.2.below J;have a0:=E.trans (J.mono E.size);subst D;exact ej (ok:=ah s) (ar:=0) hd (by decide) Y a0 X Z a4 W
theorem Bu{n:Int}{sl:Int}{lo:Bool}{cap:Nat}{args:List Ex}(hd:d<=24)(Y:ml d)(V:dT w a args)(a4:aF args.length cap)(hs:s.size<=9223372036854775807)(W:Ex.DJ args):
  Jq prog 122 #[.agg #[I 3,I n,.string s,I sl,.bool lo,I p0,.slice a args.length cap],I ((d+1:Nat):Int)] w fun e w'=>e= .returned (.bool (de ah (.mk 3 n s sl lo p0 args) (d+1)))/\FM w.1.size w w':=by
 obtain⟨R,j⟩:=eX (de ah (.mk 3 n s sl lo p0 args) (d+1));rw[j];rw[db]at j;have a6:¬ ((d+1:Nat):Int)<1:=by omega
 have K:FM w.1.size w (w.alloc (.cells #[I 3,I n,.string s,I sl,.bool lo,I p0,.slice a args.length cap] 58)):=(FB _ w).alloc (FL _) _;have S:=ak.new w 58 [I 3,I n,.string s,I sl,.bool lo,I p0,.slice a args.length cap];have N:=V.below K;have E:=O K;have C:=O (EQ S N);clear K S N V;go_enter func122,ntmps122;refine wk fun A g=>?_;go_wp2;apply g;clear g A;obtain⟨z,D⟩:=eX w.1.size;rw[D]at C;generalize w.alloc (.cells #[I 3,I n,.string s,I sl,.bool lo,I p0,.slice a args.length cap] 58)=V0 at *;rw[D];have c0:=C.1.cell 0;have c1:=C.1.cell 1;have c2:=C.1.cell 2;have c5:=C.1.cell 5;simp only[FH,FE]at c0 c1 c2 c5;rcases bq n 0 with G|G
 .have H:R=false:=by rw[<-j];simp[G]
  subst H;have a5:(n !=0)=true:=by simpa using G
  clear j;go_wp2;go_ret;exact⟨rfl,D▸E.o⟩
 subst G;rcases bq p0 0 with F|F
 .have H:R=false:=by rw[<-j];simp[F]
  subst H;have a7:(p0 !=0)=true:=by simpa using F
  clear j;go_wp2;go_ret;exact⟨rfl,D▸E.o⟩
 subst F;have U:=O j;clear j;have a1:R=(ah s&& (decide (args.length=1)&&di ah args d)):=by rw[<-U.o];simp[bs,dR]
 subst a1;clear U;have M:=fun a3=>fB s a3 hs;refine wk fun A g=>?_;go_wp2;apply g;clear g A;refine wk fun A g=>?_;go_wp2;apply g;clear g A;refine wk fun A g=>?_;go_wp2_with fail;apply (M _).mono;rintro e V1 ⟨rfl,Q⟩;have a2:=O Q;clear Q M;go_wp2_with fail;apply g;clear g A;have J:=a2.o;have X:=C.1.below J;have Z:=C.2.below J;have a0:=E.trans (J.mono E.size);subst D;exact ej (ok:=ah s) (ar:=1) hd (by decide) Y a0 X Z a4 W
theorem BG{n:Int}{sl:Int}{lo:Bool}{cap:Nat}{args:List Ex}(hd:d<=24)(Y:ml d)(U:dT w a args)(a2:aF args.length cap)(hs:s.size<=9223372036854775807)(W:Ex.DJ args):
  Jq prog 122 #[.agg #[I 4,I n,.string s,I sl,.bool lo,I p0,.slice a args.length cap],I ((d+1:Nat):Int)] w fun e w'=>e= .returned (.bool (de ah (.mk 4 n s sl lo p0 args) (d+1)))/\FM w.1.size w w':=by
 obtain⟨R,j⟩:=eX (de ah (.mk 4 n s sl lo p0 args) (d+1));rw[j];rw[db]at j;have a7:¬ ((d+1:Nat):Int)<1:=by omega
 have M:FM w.1.size w (w.alloc (.cells #[I 4,I n,.string s,I sl,.bool lo,I p0,.slice a args.length cap] 58)):=(FB _ w).alloc (FL _) _;have Q:=ak.new w 58 [I 4,I n,.string s,I sl,.bool lo,I p0,.slice a args.length cap];have N:=U.below M;have G:=O M;have C:=O (EQ Q N);clear M Q N U;go_enter func122,ntmps122;refine wk fun A g=>?_;go_wp2;apply g;clear g A;obtain⟨z,D⟩:=eX w.1.size;rw[D]at C;generalize w.alloc (.cells #[I 4,I n,.string s,I sl,.bool lo,I p0,.slice a args.length cap] 58)=V at *;rw[D];have c0:=C.1.cell 0;have c1:=C.1.cell 1;have c2:=C.1.cell 2;have c5:=C.1.cell 5;simp only[FH,FE]at c0 c1 c2 c5;rcases bq n 0 with J|J
 .have E:R=false:=by rw[<-j];simp[J]
  subst E;have a6:(n !=0)=true:=by simpa using J
  clear j;go_wp2;go_ret;exact⟨rfl,D▸G.o⟩
 subst J;rcases bq s aq with F|F
 .have E:R=false:=by rw[<-j];simp[F]
  subst E;have a5:¬s.toList=[]:=fun e=>F (cG (e.trans bc.symm));have a9:s.toList.isEmpty=false:=by rw[eA];exact dv F
  clear j;go_wp2;go_ret;exact⟨rfl,D▸G.o⟩
 subst F;have a4:aq.toList=[]:=bc;have a3:aq.toList.isEmpty=true:=by rw[bc];rfl
 rcases bq p0 0 with H|H
 .have E:R=false:=by rw[<-j];simp[H]
  subst E;have a8:(p0 !=0)=true:=by simpa using H
  clear j;go_wp2;go_ret;exact⟨rfl,D▸G.o⟩
 subst H;have S:=O j;clear j;have a1:R=(true&& (decide (args.length=1)&&di ah args d)):=by rw[<-S.o];simp[bs,dR]
 subst a1;clear S;refine wk fun A g=>?_;go_wp2;apply g;clear g A;refine wk fun A g=>?_;go_wp2;apply g;clear g A;refine wk fun A g=>?_;go_wp2_with fail;apply g;clear g A;have K:=FB V.1.size V;have X:=C.1.below K;have Z:=C.2.below K;have a0:=G.trans (K.mono G.size);subst D;exact ej (ok:=true) (ar:=1) hd (by decide) Y a0 X Z a2 W
theorem Cg{n:Int}{sl:Int}{lo:Bool}{cap:Nat}{args:List Ex}(hd:d<=24)(Y:ml d)(U:dT w a args)(a2:aF args.length cap)(hs:s.size<=9223372036854775807)(W:Ex.DJ args):
  Jq prog 122 #[.agg #[I 5,I n,.string s,I sl,.bool lo,I p0,.slice a args.length cap],I ((d+1:Nat):Int)] w fun e w'=>e= .returned (.bool (de ah (.mk 5 n s sl lo p0 args) (d+1)))/\FM w.1.size w w':=by
 obtain⟨R,j⟩:=eX (de ah (.mk 5 n s sl lo p0 args) (d+1));rw[j];rw[db]at j;have a7:¬ ((d+1:Nat):Int)<1:=by omega
 have M:FM w.1.size w (w.alloc (.cells #[I 5,I n,.string s,I sl,.bool lo,I p0,.slice a args.length cap] 58)):=(FB _ w).alloc (FL _) _;have Q:=ak.new w 58 [I 5,I n,.string s,I sl,.bool lo,I p0,.slice a args.length cap];have N:=U.below M;have G:=O M;have C:=O (EQ Q N);clear M Q N U;go_enter func122,ntmps122;refine wk fun A g=>?_;go_wp2;apply g;clear g A;obtain⟨z,D⟩:=eX w.1.size;rw[D]at C;generalize w.alloc (.cells #[I 5,I n,.string s,I sl,.bool lo,I p0,.slice a args.length cap] 58)=V at *;rw[D];have c0:=C.1.cell 0;have c1:=C.1.cell 1;have c2:=C.1.cell 2;have c5:=C.1.cell 5;simp only[FH,FE]at c0 c1 c2 c5;rcases bq n 0 with J|J
 .have E:R=false:=by rw[<-j];simp[J]
  subst E;have a6:(n !=0)=true:=by simpa using J
  clear j;go_wp2;go_ret;exact⟨rfl,D▸G.o⟩
 subst J;rcases bq s aq with F|F
 .have E:R=false:=by rw[<-j];simp[F]
  subst E;have a5:¬s.toList=[]:=fun e=>F (cG (e.trans bc.symm));have a9:s.toList.isEmpty=false:=by rw[eA];exact dv F
  clear j;go_wp2;go_ret;exact⟨rfl,D▸G.o⟩
 subst F;have a4:aq.toList=[]:=bc;have a3:aq.toList.isEmpty=true:=by rw[bc];rfl
 rcases bq p0 0 with H|H
 .have E:R=false:=by rw[<-j];simp[H]
  subst E;have a8:(p0 !=0)=true:=by simpa using H
  clear j;go_wp2;go_ret;exact⟨rfl,D▸G.o⟩
 subst H;have S:=O j;clear j;have a1:R=(true&& (decide (args.length=1)&&di ah args d)):=by rw[<-S.o];simp[bs,dR]
 subst a1;clear S;refine wk fun A g=>?_;go_wp2;apply g;clear g A;refine wk fun A g=>?_;go_wp2;apply g;clear g A;refine wk fun A g=>?_;go_wp2_with fail;apply g;clear g A;have K:=FB V.1.size V;have X:=C.1.below K;have Z:=C.2.below K;have a0:=G.trans (K.mono G.size);subst D;exact ej (ok:=true) (ar:=1) hd (by decide) Y a0 X Z a2 W
theorem BT{n:Int}{sl:Int}{lo:Bool}{cap:Nat}{args:List Ex}(hd:d<=24)(Y:ml d)(a3:dT w a args)(a0:aF args.length cap)(hs:s.size<=9223372036854775807)(W:Ex.DJ args):
  Jq prog 122 #[.agg #[I 6,I n,.string s,I sl,.bool lo,I p0,.slice a args.length cap],I ((d+1:Nat):Int)] w fun e w'=>e= .returned (.bool (de ah (.mk 6 n s sl lo p0 args) (d+1)))/\FM w.1.size w w':=by
 obtain⟨R,E⟩:=eX (de ah (.mk 6 n s sl lo p0 args) (d+1));rw[E];rw[db]at E;have a9:¬ ((d+1:Nat):Int)<1:=by omega
 have Z:FM w.1.size w (w.alloc (.cells #[I 6,I n,.string s,I sl,.bool lo,I p0,.slice a args.length cap] 58)):=(FB _ w).alloc (FL _) _;have a2:=ak.new w 58 [I 6,I n,.string s,I sl,.bool lo,I p0,.slice a args.length cap];have a1:=a3.below Z;have F:=O Z;have C:=O (EQ a2 a1);clear Z a2 a1 a3;go_enter func122,ntmps122;refine wk fun j g=>?_;go_wp2;apply g;clear g j;obtain⟨z,G⟩:=eX w.1.size;rw[G]at C;generalize w.alloc (.cells #[I 6,I n,.string s,I sl,.bool lo,I p0,.slice a args.length cap] 58)=D at *;rw[G];have c0:=C.1.cell 0;have c1:=C.1.cell 1;have c2:=C.1.cell 2;have c5:=C.1.cell 5;simp only[FH,FE]at c0 c1 c2 c5;rcases bq n 0 with U|U
 .have X:R=false:=by rw[<-E];simp[U]
  subst X;have a8:(n !=0)=true:=by simpa using U
  clear E;go_wp2;go_ret;exact⟨rfl,G▸F.o⟩
 subst U;rcases bq s aq with N|N
 .have X:R=false:=by rw[<-E];simp[N]
  subst X;have a7:¬s.toList=[]:=fun e=>N (cG (e.trans bc.symm));have b4:s.toList.isEmpty=false:=by rw[eA];exact dv N
  clear E;go_wp2;go_ret;exact⟨rfl,G▸F.o⟩
 subst N;have a6:aq.toList=[]:=bc;have a5:aq.toList.isEmpty=true:=by rw[bc];rfl
 have H:=O E;clear E;have a4:(1<=p0/\p0<=11)∨¬1<=p0∨(1<=p0/\¬p0<=11):=by omega
 rcases a4 with ⟨J,V⟩|J|⟨J,V⟩
 .skip;have S:R=(true&& (decide (args.length=2)&&di ah args d)):=by rw[<-H.o];simp[bs,dR,J,V]
  subst S;clear H;refine wk fun j g=>?_;go_wp2;apply g;clear g j;refine wk fun j g=>?_;go_wp2;apply g;clear g j;refine wk fun j g=>?_;go_wp2;go_quiet (fail);rename_i nq;apply g;clear g;have A:=(⟨rfl,rfl,rfl,FL _,fun _ _=>rfl⟩:FM D.1.size D (D.drewN nq));have K:=C.1.below A;have M:=C.2.below A;have Q:=F.trans (A.mono F.size);subst G;exact ej (ok:=true) (ar:=2) hd (by decide) Y Q K M a0 W
 .skip;have S:R=(false&& (decide (args.length=2)&&di ah args d)):=by rw[<-H.o];simp[bs,dR,J]
  subst S;clear H;have g3:p0<1:=by omega
  have g4:decide (1<=p0)=false:=dv J;refine wk fun j g=>?_;go_wp2;apply g;clear g j;refine wk fun j g=>?_;go_wp2;apply g;clear g j;refine wk fun j g=>?_;go_wp2;go_quiet (fail);rename_i nq;apply g;clear g;have A:=(⟨rfl,rfl,rfl,FL _,fun _ _=>rfl⟩:FM D.1.size D (D.drewN nq));have K:=C.1.below A;have M:=C.2.below A;have Q:=F.trans (A.mono F.size);subst G;exact ej (ok:=false) (ar:=2) hd (by decide) Y Q K M a0 W
 .skip;have S:R=(false&& (decide (args.length=2)&&di ah args d)):=by rw[<-H.o];simp[bs,dR,J,V]
  subst S;clear H;have g3:11<p0:=by omega
  have g4:decide (p0<=11)=false:=dv V;refine wk fun j g=>?_;go_wp2;apply g;clear g j;refine wk fun j g=>?_;go_wp2;apply g;clear g j;refine wk fun j g=>?_;go_wp2;go_quiet (fail);rename_i nq;apply g;clear g;have A:=(⟨rfl,rfl,rfl,FL _,fun _ _=>rfl⟩:FM D.1.size D (D.drewN nq));have K:=C.1.below A;have M:=C.2.below A;have Q:=F.trans (A.mono F.size);subst G;exact ej (ok:=false) (ar:=2) hd (by decide) Y Q K M a0 W
theorem ti{k n:Int}{sl:Int}{lo:Bool}{cap:Nat}{args:List Ex}(hd:d<=24)(_:ml d)(K:k≠1)(V:k≠2)(M:k≠3)(W:k≠4)(X:k≠5)(J:k≠6)(U:dT w a args)(_:aF args.length cap)(hs:s.size<=9223372036854775807)(_:Ex.DJ args):
  Jq prog 122 #[.agg #[I k,I n,.string s,I sl,.bool lo,I p0,.slice a args.length cap],I ((d+1:Nat):Int)] w fun e w'=>e= .returned (.bool (de ah (.mk k n s sl lo p0 args) (d+1)))/\FM w.1.size w w':=by
 obtain⟨R,g⟩:=eX (de ah (.mk k n s sl lo p0 args) (d+1));rw[g];rw[db]at g;have a5:¬ ((d+1:Nat):Int)<1:=by omega
 have H:FM w.1.size w (w.alloc (.cells #[I k,I n,.string s,I sl,.bool lo,I p0,.slice a args.length cap] 58)):=(FB _ w).alloc (FL _) _;have S:=ak.new w 58 [I k,I n,.string s,I sl,.bool lo,I p0,.slice a args.length cap];have N:=U.below H;have E:=O H;have C:=O (EQ S N);clear H S N U;have e1:(k==1)=false:=by simpa using K
 have e2:(k==2)=false:=by simpa using V
 have e3:(k==3)=false:=by simpa using M
 have e4:(k==4)=false:=by simpa using W
 have e5:(k==5)=false:=by simpa using X
 have e6:(k==6)=false:=by simpa using J
 have k1:(k !=1)=true:=by simpa using K
 have k2:(k !=2)=true:=by simpa using V
 have k3:(k !=3)=true:=by simpa using M
 have k6:(k !=6)=true:=by simpa using J
 go_enter func122,ntmps122;refine wk fun Z Q=>?_;go_wp2;apply Q;clear Q Z;obtain⟨z,A⟩:=eX w.1.size;rw[A]at C;generalize w.alloc (.cells #[I k,I n,.string s,I sl,.bool lo,I p0,.slice a args.length cap] 58)=V0 at *;rw[A];have c0:=C.1.cell 0;have c1:=C.1.cell 1;have c2:=C.1.cell 2;have c5:=C.1.cell 5;simp only[FH,FE]at c0 c1 c2 c5;rcases bq n 0 with G|G
 .have j:R=false:=by rw[<-g];simp[G]<;>omega
  subst j;have a4:(n !=0)=true:=by simpa using G
  clear g;go_wp2;go_ret;exact⟨rfl,A▸E.o⟩
 subst G;rcases bq s aq with D|D
 .have j:R=false:=by rw[<-g];simp[D]<;>omega
  subst j;have a3:¬s.toList=[]:=fun e=>D (cG (e.trans bc.symm));have a8:s.toList.isEmpty=false:=by rw[eA];exact dv D
  clear g;go_wp2;go_ret;exact⟨rfl,A▸E.o⟩
 subst D;have a1:aq.toList=[]:=bc;have a0:aq.toList.isEmpty=true:=by rw[bc];rfl
 rcases bq p0 0 with F|F
 .have j:R=false:=by rw[<-g];simp[F]<;>omega
  subst j;have a6:(p0 !=0)=true:=by simpa using F
  clear g;go_wp2;go_ret;exact⟨rfl,A▸E.o⟩
 subst F;have Y:=O g;clear g;have j:R=false:=by rw[<-Y.o];simp[bs,K,J];omega
 subst j;go_wp2;go_ret;exact⟨rfl,A▸E.o⟩
theorem iI:∀ (d:Nat),d<=25->ml d
 |0,_=>by
  intro x cs w g D
  let ⟨k,n,s,sl,lo,E,args⟩:=x
  have N:de ah (.mk k n s sl lo E args) 0=false:=by rw[db];simp
  rw[N]
  unfold ExL at D
  obtain⟨a,cap,rfl,-,-⟩:=D
  have Q:=O ((FB w.1.size w).alloc rl (.cells #[I k,I n,.string s,I sl,.bool lo,I E,.slice a args.length cap] 58))
  go_in
  go_wp2
  go_ret
  exact⟨z,Q⟩
 |d+1,hd=>by
  have C:=iI d (by omega)
  intro x cs w g D
  let ⟨k,n,s,sl,lo,E,args⟩:=x
  unfold Ex.nb at g
  unfold ExL at D
  obtain⟨a,cap,rfl,j,A⟩:=D
  by_cases H:k=1
  .subst H;exact Bz (by omega) C A j g.1 g.2
  by_cases J:k=2
  .subst J;exact BM (by omega) C A j g.1 g.2
  by_cases F:k=3
  .subst F;exact Bu (by omega) C A j g.1 g.2
  by_cases K:k=4
  .subst K;exact BG (by omega) C A j g.1 g.2
  by_cases G:k=5
  .subst G;exact Cg (by omega) C A j g.1 g.2
  by_cases M:k=6
  .subst M;exact BT (by omega) C A j g.1 g.2
  .exact ti (by omega) C H J F K G M A j g.1 g.2
theorem yr{o:Nat}{cs:List Fr}(h:w0.rangeAt b o cs)(g:bL w0 w):w.rangeAt b o cs:=fun j v A=>by have:=h j v A;rw[<-this];simp[FI,g.block b (FF w0 _ this)]
theorem je(x:Ex)(cs:List Fr)(w:Fk)(Q:ExL (fun _=>True) w cs x):Jq prog 123 #[.agg cs.toArray] w fun e w'=>e= .returned (.bool (iB x))/\FM w.1.size w w':=by
 let ⟨k,n,s,sl,lo,D,args⟩:=x
 unfold ExL at Q;obtain⟨a,cap,rfl,-,-⟩:=Q;obtain⟨R,g⟩:=eX (iB (.mk k n s sl lo D args));rw[g];have g:(decide (k=0)&& (decide (n=0)&& (decide (s=aq)&& (decide (D=0)&&decide (args.length=0)))))=R:=g;obtain⟨E,U⟩:=eX args.length;rw[U]at g ⊢;have S:FM w.1.size w (w.alloc (.cells #[I k,I n,.string s,I sl,.bool lo,I D,.slice a E cap] 58)):=(FB _ w).alloc (FL _) _;have V:=ak.new w 58 [I k,I n,.string s,I sl,.bool lo,I D,.slice a E cap];have F:=O S;have C:=O V;clear S V U;go_enter func123,ntmps123;refine wk fun W N=>?_;go_wp2;apply N;clear N W;obtain⟨z,A⟩:=eX w.1.size;rw[A]at C;generalize w.alloc (.cells #[I k,I n,.string s,I sl,.bool lo,I D,.slice a E cap] 58)=Y at *;rw[A];have c0:=C.cell 0
 have c1:=C.cell 1;have c2:=C.cell 2;have c5:=C.cell 5;have c6:=C.cell 6;simp only[FH,FE]at c0 c1 c2 c5 c6;clear C;rcases bq k 0 with H|H
 .have j:R=false:=by rw[<-g];simp[H]
  subst j;have Z:(k==0)=false:=by simpa using H
  clear g;go_wp2;go_ret;exact⟨rfl,A▸F.o⟩
 subst H;rcases bq n 0 with J|J
 .have j:R=false:=by rw[<-g];simp[J]
  subst j;have a0:(n==0)=false:=by simpa using J
  clear g;go_wp2;go_ret;exact⟨rfl,A▸F.o⟩
 subst J;rcases bq s aq with G|G
 .have j:R=false:=by rw[<-g];simp[G]
  subst j;have a5:¬s.toList=[]:=fun e=>G (cG (e.trans bc.symm));have a1:s.toList.isEmpty=false:=by rw[eA];exact dv G
  clear g;go_wp2;go_ret;exact⟨rfl,A▸F.o⟩
 subst G;have a3:aq.toList=[]:=bc;have X:aq.toList.isEmpty=true:=by rw[bc];rfl
 rcases bq D 0 with M|M
 .have j:R=false:=by rw[<-g];simp[M]
  subst j;have a2:(D==0)=false:=by simpa using M
  clear g;go_wp2;go_ret;exact⟨rfl,A▸F.o⟩
 subst M;rcases bq E 0 with K|K
 .have j:R=false:=by rw[<-g];simp[K]
  subst j;have a4:((E:Int)==0)=false:=by simpa using K
  clear g;go_wp2;go_ret;exact⟨rfl,A▸F.o⟩
 subst K;have j:R=true:=by rw[<-g];rfl
 subst j;clear g;go_wp2;go_ret;exact⟨rfl,A▸F.o⟩
def yg(d:Nat):Prop:=∀ (s:St) (cs:List Fr) (w:Fk),s.nb->bX (fun _=>True) w cs s->Jq prog 85 #[.agg cs.toArray,.int .i64 (d:Int)] w fun e w'=>e= .returned (.bool (jv ah s d))/\FM w.1.size w w'
def oK(d:Nat):Prop:=∀ (l:List St) (a:Option Addr) (cap:Nat) (w:Fk),St.DJ l->eK w a cap l->Jq prog 44 #[.slice a l.length cap,.int .i64 (d:Int)] w fun e w'=>e= .returned (.bool (bB ah l d))/\FM w.1.size w w'
theorem yn{z:Nat}{k l c:Int}{x y:Ex}{body els:List St}{id sl ot:Int}{lo:Bool}{R:Bool}(hd:d<=24)(S:oK (d+1))(hb:bL w V)(hz:gy V z 0 (.mk k l c s t x y body els id sl ot lo))(F:(.mk k l c s t x y body els id sl ot lo:St).nb)(X:(bB ah body (d+1)&&bB ah els (d+1))=R)(hU:l2.length=142:=by rfl):
  FR prog (Jp 9 (f85.body.getD .skip)) (Gb prog f85 (fun e w'=>e= .returned (.bool R)/\bL w w')) ⟨(v0::I d::Pt z::v1:: .bool false::I k::l2).toArray,[]⟩ V:=by
 revert l2;apply aN;iterate 142 intro _
 change FR _ _ _ _ _;have b5:(d:Int)+1<=9223372036854775807:=by omega
 let ⟨R1,a0⟩:=eX (bB ah body (d+1))
 let ⟨R2,a1⟩:=eX (bB ah els (d+1))
 rw[a0,a1]at X;obtain⟨-,-,-,-,-,-,-,⟨ab,a8,D,a3⟩,M,U,C,a4⟩:=hz.parts;simp only[GE]at D C;unfold St.nb at F;have g:=S body ab a8 V F.2.2.2.2.1 a3;rw[a0,show ((d+1:Nat):Int)=(d:Int)+1 by omega]at g;have K:=O (fun W (h:eK W M U els)=>S els M U W F.2.2.2.2.2 h);have Z:=O a4;have E:=O hb;have N:=O X;have Q:=O a1;have J:Hid (∀Y,bL V Y->Y.cell? (ad z 20)=some (.slice M els.length U)):=O (fun Y hv=>by rw[<-C];simp[FI,hv.block z (FF V _ C)]);let ⟨N1,a5⟩:=eX (body.length)
 rw[a5]at g D;clear hz F a4 a3 hb S X a0 a1 C a5;conv in (Jp _ _)=>whnf
 go_wp2_with fail;apply g.mono;rintro e V1 ⟨rfl,j⟩;have G:=O (E.trans (j.mono E.size));cases R1
 .clear K Z g j D J E Q;have b4:R=false:=by rw[<-N.o];rfl
  subst b4;have H:=G.o;go_wp2;go_ret;exact⟨rfl,H⟩
 have A:=K V1 (Z.below j);rw[Q.o,show ((d+1:Nat):Int)=(d:Int)+1 by omega]at A;have a7:=J V1 j;let ⟨N2,a2⟩:=eX (els.length)
 rw[a2]at A a7;have a9:R2=R:=by rw[<-N.o];rfl
 subst a9;clear K Z E g j D J Q N a2;go_wp2_with fail;apply A.mono;rintro e V2 ⟨rfl,a6⟩;have H:=G.trans (a6.mono G.size);clear A a6 G a7;go_wp2;go_ret;exact⟨rfl,H⟩
theorem wx{z:Nat}{k l c:Int}{x y:Ex}{body els:List St}{id sl ot:Int}{lo:Bool}{R:Bool}(hd:d<=24)(ih:oK (d+1))(hb:bL w W)(Q:gy W z 0 (.mk k l c s t x y body els id sl ot lo))(Z:(.mk k l c s t x y body els id sl ot lo:St).nb)(J:(((decide (k=4)||decide (k=5))||decide (body.length=0))&& ((decide (k=4)||decide (els.length=0))&& (bB ah body (d+1)&&bB ah els (d+1))))=R)(hU:l2.length=142:=by rfl):
  FR prog (Jp 8 (f85.body.getD .skip)) (Gb prog f85 (fun e w'=>e= .returned (.bool R)/\bL w w')) ⟨(v0::I d::Pt z::v1:: .bool false::I k::l2).toArray,[]⟩ W:=by
 revert l2;apply aN;iterate 142 intro _
 change FR _ _ _ _ _;obtain⟨-,-,-,-,-,-,-,⟨ab,a4,X,a1⟩,ae,a6,V,a2⟩:=Q.parts;simp only[GE]at X V;let ⟨D,M⟩:=eX ((bB ah body (d+1)&&bB ah els (d+1)))
 rw[M]at J;let ⟨S,a0⟩:=eX (body.length)
 let ⟨K,U⟩:=eX (els.length)
 rw[a0]at X J;rw[U]at V J;have E:=O hb;have g:=O (EQ ih (EQ Q (EQ Z M)));clear Q Z a2 a1 hb ih M a0 U;conv in (Jp _ _)=>whnf
 refine wk fun N C=>?_;have A:=O J;clear J;rcases bq k 4 with k4|k4
 .have a3:(k !=4)=true:=by simpa using k4
  have a7:(k==4)=false:=by simpa using k4
  rcases bq k 5 with k5|k5
  .have a5:(k !=5)=true:=by simpa using k5
   rcases bq S 0 with j|j
   .have Y:(0:Int)< (S:Int):=by omega
    have H:R=false:=by rw[<-A.o];simp[k4,k5,j]
    subst H;have F:=E.o;go_wp2;go_ret;exact⟨rfl,F⟩
   .subst j;rcases bq K 0 with j|j
    .have Y:(0:Int)< (K:Int):=by omega
     have H:R=false:=by rw[<-A.o];simp[k4,j]
     subst H;have F:=E.o;go_wp2;go_ret;exact⟨rfl,F⟩
    .subst j;have G:D=R:=by rw[<-A.o];simp
     subst G;clear A;go_wp2;apply C;clear C N;exact yn hd g.1 E g.2.1 g.2.2.1 g.2.2.2
  .subst k5;rcases bq K 0 with j|j
   .have Y:(0:Int)< (K:Int):=by omega
    have H:R=false:=by rw[<-A.o];simp[j]
    subst H;have F:=E.o;go_wp2;go_ret;exact⟨rfl,F⟩
   .subst j;have G:D=R:=by rw[<-A.o];simp
    subst G;clear A;go_wp2;apply C;clear C N;exact yn hd g.1 E g.2.1 g.2.2.1 g.2.2.2
 .subst k4;have G:D=R:=by rw[<-A.o];simp
  subst G;clear A;go_wp2;apply C;clear C N;exact yn hd g.1 E g.2.1 g.2.2.1 g.2.2.2
theorem vu{z:Nat}{k l c:Int}{x y:Ex}{body els:List St}{id sl ot:Int}{lo:Bool}{R:Bool}(hd:d<=24)(ih:oK (d+1))(hb:bL w W)(hz:gy W z 0 (.mk k l c s t x y body els id sl ot lo))(b6:(.mk k l c s t x y body els id sl ot lo:St).nb)(hR:((if k=3 then de ah y 24 else iB y)&& ((if z0=true then de ah x 24 else iB x)&& (((decide (k=4)||decide (k=5))||decide (body.length=0))&& ((decide (k=4)||decide (els.length=0))&& (bB ah body (d+1)&&bB ah els (d+1))))))=R)(hU:l2.length=139:=by rfl):
  FR prog (Jp 7 (f85.body.getD .skip)) (Gb prog f85 (fun e w'=>e= .returned (.bool R)/\bL w w')) ⟨(v0::I d::Pt z::v1:: .bool false::I k::v2::v3:: .bool z0::l2).toArray,[]⟩ W:=by
 revert l2;apply aN;iterate 139 intro _
 change FR _ _ _ _ _;let ⟨a7,a5,a3⟩:=gf
 let ⟨C,hC⟩:=eX ((((decide (k=4)||decide (k=5))||decide (body.length=0))&& ((decide (k=4)||decide (els.length=0))&& (bB ah body (d+1)&&bB ah els (d+1)))))
 rw[hC]at hR;obtain⟨-,-,-,-,-,hx,hy,-⟩:=hz.parts;simp only[GE]at hx hy;let ⟨cx,d0,a2,c8⟩:=ExL.at0 hx
 let ⟨Z,d1,a6,b9⟩:=ExL.at0 hy
 have Q:=O b6;unfold St.nb at b6;let ⟨X,hX⟩:=eX ((if z0=true then de ah x 24 else iB x))
 let ⟨a4,hY⟩:=eX ((if k=3 then de ah y 24 else iB y))
 rw[hX,hY]at hR;have D:=O hR;have HZ:=O hz;have N:=O hb;have HX:=O d0;have E:=O (EQ ih (EQ hz hC));have b8:Hid (z0=true->Jq prog 122 #[.agg cx.toArray,I 24] W fun e w'=>e= .returned (.bool X)/\bL W w'):=O (fun h=>by have:=iI 24 (by decide) x cx W b6.2.2.1 c8;rw[aD h]at hX;rw[hX]at this;exact this)
 have c9:Hid (z0=false->Jq prog 123 #[.agg cx.toArray] W fun e w'=>e= .returned (.bool X)/\bL W w'):=O (fun h=>by have:=je x cx W c8;rw[am (by rw[h];decide)]at hX;rw[hX]at this;exact this)
 have b5:Hid (∀g,bL W g->k=3->Jq prog 122 #[.agg Z.toArray,I 24] g fun e w'=>e= .returned (.bool a4)/\bL g w'):=O (fun g M h=>by have:=iI 24 (by decide) y Z g b6.2.2.2.1 (b9.below M);rw[aD h]at hY;rw[hY]at this;exact this)
 have b4:Hid (∀g,bL W g->k≠3->Jq prog 123 #[.agg Z.toArray] g fun e w'=>e= .returned (.bool a4)/\bL g w'):=O (fun g M h=>by have:=je y Z g (b9.below M);rw[am h]at hY;rw[hY]at this;exact this)
 have a1:Hid (∀g,bL W g->g.rangeAt z 12 Z):=O (fun g M=>yr d1 M);clear hz b6 hb ih hC hx hy c8 b9 hX hY d0 d1 hR;conv in (Jp _ _)=>whnf
 refine wk fun b7 HK=>?_;cases z0
 .have a0:=c9 rfl;clear b8 c9;rcases bq k 3 with k3|k3
  .have d2:(k !=3)=true:=by simpa using k3
   have d3:(k==3)=false:=by simpa using k3
   have V:=O (fun g M=>b4 g M k3);clear b4 b5;go_wp2_with ((with_reducible refine gU _ (.load 58 (.tmp 88)) ?_);refine aS rfl 58 (.tmp 88) rfl z 5 rfl cx a7 HX a5 a3 (by rw[a2];exact bC) ?_);apply a0.mono;rintro e Y ⟨rfl,j⟩;have A:=O (N.trans (j.mono N.size));have U:=O (HZ.below j);have G:=V Y j;have J:=O (a1 Y j);clear a0 V a1 N HZ HX a2 j;cases X
   .clear G J E Q;have K:R=false:=by rw[<-D.o];simp
    subst K;have F:=A.o;go_wp2;go_ret;exact⟨rfl,F⟩
   go_wp2_with ((with_reducible refine gU _ (.load 58 (.tmp 108)) ?_);refine aS rfl 58 (.tmp 108) rfl z 12 rfl Z a7 J a5 a3 (by rw[a6];exact bC) ?_);apply G.mono;rintro e V2 ⟨rfl,H⟩;have S:=O (A.trans (H.mono A.size));have a8:=O (U.below H);clear G J A U H a6;cases a4
   .clear E Q;have K:R=false:=by rw[<-D.o];simp
    subst K;have F:=S.o;go_wp2;go_ret;exact⟨rfl,F⟩
   have a9:C=R:=by rw[<-D.o];rfl
   subst a9;clear D;go_wp2;apply HK;clear HK b7;exact wx hd E.1 S a8 Q E.2.2
  .subst k3;have V:=O (fun g M=>b5 g M rfl);clear b4 b5;go_wp2_with ((with_reducible refine gU _ (.load 58 (.tmp 88)) ?_);refine aS rfl 58 (.tmp 88) rfl z 5 rfl cx a7 HX a5 a3 (by rw[a2];exact bC) ?_);apply a0.mono;rintro e Y ⟨rfl,j⟩;have A:=O (N.trans (j.mono N.size));have U:=O (HZ.below j);have G:=V Y j;have J:=O (a1 Y j);clear a0 V a1 N HZ HX a2 j;cases X
   .clear G J E Q;have K:R=false:=by rw[<-D.o];simp
    subst K;have F:=A.o;go_wp2;go_ret;exact⟨rfl,F⟩
   go_wp2_with ((with_reducible refine gU _ (.load 58 (.tmp 98)) ?_);refine aS rfl 58 (.tmp 98) rfl z 12 rfl Z a7 J a5 a3 (by rw[a6];exact bC) ?_);apply G.mono;rintro e V2 ⟨rfl,H⟩;have S:=O (A.trans (H.mono A.size));have a8:=O (U.below H);clear G J A U H a6;cases a4
   .clear E Q;have K:R=false:=by rw[<-D.o];simp
    subst K;have F:=S.o;go_wp2;go_ret;exact⟨rfl,F⟩
   have a9:C=R:=by rw[<-D.o];rfl
   subst a9;clear D;go_wp2;apply HK;clear HK b7;exact wx hd E.1 S a8 Q E.2.2
 .have a0:=b8 rfl;clear b8 c9;rcases bq k 3 with k3|k3
  .have d2:(k !=3)=true:=by simpa using k3
   have d3:(k==3)=false:=by simpa using k3
   have V:=O (fun g M=>b4 g M k3);clear b4 b5;go_wp2_with ((with_reducible refine gU _ (.load 58 (.tmp 79)) ?_);refine aS rfl 58 (.tmp 79) rfl z 5 rfl cx a7 HX a5 a3 (by rw[a2];exact bC) ?_);apply a0.mono;rintro e Y ⟨rfl,j⟩;have A:=O (N.trans (j.mono N.size));have U:=O (HZ.below j);have G:=V Y j;have J:=O (a1 Y j);clear a0 V a1 N HZ HX a2 j;cases X
   .clear G J E Q;have K:R=false:=by rw[<-D.o];simp
    subst K;have F:=A.o;go_wp2;go_ret;exact⟨rfl,F⟩
   go_wp2_with ((with_reducible refine gU _ (.load 58 (.tmp 108)) ?_);refine aS rfl 58 (.tmp 108) rfl z 12 rfl Z a7 J a5 a3 (by rw[a6];exact bC) ?_);apply G.mono;rintro e V2 ⟨rfl,H⟩;have S:=O (A.trans (H.mono A.size));have a8:=O (U.below H);clear G J A U H a6;cases a4
   .clear E Q;have K:R=false:=by rw[<-D.o];simp
    subst K;have F:=S.o;go_wp2;go_ret;exact⟨rfl,F⟩
   have a9:C=R:=by rw[<-D.o];rfl
   subst a9;clear D;go_wp2;apply HK;clear HK b7;exact wx hd E.1 S a8 Q E.2.2
  .subst k3;have V:=O (fun g M=>b5 g M rfl);clear b4 b5;go_wp2_with ((with_reducible refine gU _ (.load 58 (.tmp 79)) ?_);refine aS rfl 58 (.tmp 79) rfl z 5 rfl cx a7 HX a5 a3 (by rw[a2];exact bC) ?_);apply a0.mono;rintro e Y ⟨rfl,j⟩;have A:=O (N.trans (j.mono N.size));have U:=O (HZ.below j);have G:=V Y j;have J:=O (a1 Y j);clear a0 V a1 N HZ HX a2 j;cases X
   .clear G J E Q;have K:R=false:=by rw[<-D.o];simp
    subst K;have F:=A.o;go_wp2;go_ret;exact⟨rfl,F⟩
   go_wp2_with ((with_reducible refine gU _ (.load 58 (.tmp 98)) ?_);refine aS rfl 58 (.tmp 98) rfl z 12 rfl Z a7 J a5 a3 (by rw[a6];exact bC) ?_);apply G.mono;rintro e V2 ⟨rfl,H⟩;have S:=O (A.trans (H.mono A.size));have a8:=O (U.below H);clear G J A U H a6;cases a4
   .clear E Q;have K:R=false:=by rw[<-D.o];simp
    subst K;have F:=S.o;go_wp2;go_ret;exact⟨rfl,F⟩
   have a9:C=R:=by rw[<-D.o];rfl
   subst a9;clear D;go_wp2;apply HK;clear HK b7;exact wx hd E.1 S a8 Q E.2.2
theorem hF{z:Nat}{k l c:Int}{x y:Ex}{body els:List St}{id sl ot:Int}{lo:Bool}{nm:Bool}{R:Bool}(hd:d<=24)(ih:oK (d+1))(hb:bL w W)(hz:gy W z 0 (.mk k l c s t x y body els id sl ot lo))(V:(.mk k l c s t x y body els id sl ot lo:St).nb)(Y:((if nm=true then ah s else decide (s=aq))&& ((if z0=true then ah t else decide (t=aq))&& ((if k=3 then de ah y 24 else iB y)&& ((if z1=true then de ah x 24 else iB x)&& (((decide (k=4)||decide (k=5))||decide (body.length=0))&& ((decide (k=4)||decide (els.length=0))&& (bB ah body (d+1)&&bB ah els (d+1))))))))=R)(hU:l2.length=139:=by rfl):
  FR prog (Jp 6 (f85.body.getD .skip)) (Gb prog f85 (fun e w'=>e= .returned (.bool R)/\bL w w')) ⟨(v0::I d::Pt z::v1:: .bool false::I k:: .bool nm:: .bool z0:: .bool z1::l2).toArray,[]⟩ W:=by
 revert l2;apply aN;iterate 139 intro _
 change FR _ _ _ _ _;let ⟨C,hC⟩:=eX (((if k=3 then de ah y 24 else iB y)&& ((if z1=true then de ah x 24 else iB x)&& (((decide (k=4)||decide (k=5))||decide (body.length=0))&& ((decide (k=4)||decide (els.length=0))&& (bB ah body (d+1)&&bB ah els (d+1)))))))
 rw[hC]at Y;have E:=O (EQ ih (EQ V hC));unfold St.nb at V;have a5:=fun W=>fB s W V.1;have X:=fun W=>fB t W V.2.1;have a4:ah aq=false:=by decide +kernel
 let ⟨p1,c8⟩:=eX (ah s)
 let ⟨S,a1⟩:=eX (ah t)
 have HS:Hid (p1=true->¬s=aq):=O (fun h e=>by rw[e,a4]at c8;rw[<-c8]at h;cases h);have a7:Hid (S=true->¬t=aq):=O (fun h e=>by rw[e,a4]at a1;rw[<-a1]at h;cases h);rw[c8]at a5 Y;rw[a1]at X Y;have j:=O Y;have Z:=O hz;have HB:=O hb;clear hz V hb ih hC c8 a1 a4 Y;have q3:=Z.parts.2.2.2.1;simp only[GE]at q3;conv in (Jp _ _)=>whnf
 have HQ:Hid (∀K,bL W K->K.cell? (ad z 3)=some (.string s)/\K.cell? (ad z 4)=some (.string t)):=O (fun K hv=>by have h:=(Z.below hv).parts;simp only[GE]at h;exact⟨h.2.2.2.1,h.2.2.2.2.1⟩)
 have b8:=bc;have b5:aq.toList.isEmpty=true:=by rw[bc];rfl
 refine wk fun a2 J=>?_;go_wp2_with fail;apply (a5 _).mono;rintro e V1 ⟨rfl,a3⟩;let ⟨b9,a6⟩:=HQ V1 a3
 have H:=O (HB.trans (a3.mono HB.size));have U:=O (Z.below a3);clear a5 HB Z a3 HQ q3;have a0:Hid (∀K,bL V1 K->K.cell? (ad z 4)=some (.string t)):=O (fun K hv=>by have h:=(U.below hv).parts;simp only[GE]at h;exact h.2.2.2.2.1)
 cases nm
 .cases p1
  .rcases bq s aq with N|N
   .have b7:¬s.toList=[]:=fun e=>N (cG (e.trans bc.symm));have b6:s.toList.isEmpty=false:=by rw[eA];exact dv N
    have A:R=false:=by rw[<-j.o];simp[N]
    subst A;have g:=H.o;go_wp2;go_ret;exact⟨rfl,g⟩
   .subst N;go_wp2_with fail;apply (X _).mono;rintro e V2 ⟨rfl,G⟩;have a8:=a0 V2 G;have F:=O (H.trans (G.mono H.size));have Q:=O (U.below G);clear X H U G a0 a6;cases z0
    .cases S
     .rcases bq t aq with D|D
      .have a9:¬t.toList=[]:=fun e=>D (cG (e.trans bc.symm));have b4:t.toList.isEmpty=false:=by rw[eA];exact dv D
       have A:R=false:=by rw[<-j.o];simp[D]
       subst A;have g:=F.o;go_wp2;go_ret;exact⟨rfl,g⟩
      .subst D;have M:C=R:=by rw[<-j.o];simp
       subst M;clear j;go_wp2;apply J;clear J a2;exact vu hd E.1 F Q E.2.1 E.2.2
     .have D:=a7 rfl;have A:R=false:=by rw[<-j.o];simp[D]
      subst A;have g:=F.o;go_wp2;go_ret;exact⟨rfl,g⟩
    .cases S
     .skip;have A:R=false:=by rw[<-j.o];simp
      subst A;have g:=F.o;go_wp2;go_ret;exact⟨rfl,g⟩
     .skip;have M:C=R:=by rw[<-j.o];simp
      subst M;clear j;go_wp2;apply J;clear J a2;exact vu hd E.1 F Q E.2.1 E.2.2
  .have N:=HS rfl;have A:R=false:=by rw[<-j.o];simp[N]
   subst A;have g:=H.o;go_wp2;go_ret;exact⟨rfl,g⟩
 .cases p1
  .skip;have A:R=false:=by rw[<-j.o];simp
   subst A;have g:=H.o;go_wp2;go_ret;exact⟨rfl,g⟩
  .go_wp2_with fail;apply (X _).mono;rintro e V2 ⟨rfl,G⟩;have a8:=a0 V2 G;have F:=O (H.trans (G.mono H.size));have Q:=O (U.below G);clear X H U G a0 a6;cases z0
   .cases S
    .rcases bq t aq with D|D
     .have a9:¬t.toList=[]:=fun e=>D (cG (e.trans bc.symm));have b4:t.toList.isEmpty=false:=by rw[eA];exact dv D
      have A:R=false:=by rw[<-j.o];simp[D]
      subst A;have g:=F.o;go_wp2;go_ret;exact⟨rfl,g⟩
     .subst D;have M:C=R:=by rw[<-j.o];simp
      subst M;clear j;go_wp2;apply J;clear J a2;exact vu hd E.1 F Q E.2.1 E.2.2
    .have D:=a7 rfl;have A:R=false:=by rw[<-j.o];simp[D]
     subst A;have g:=F.o;go_wp2;go_ret;exact⟨rfl,g⟩
   .cases S
    .skip;have A:R=false:=by rw[<-j.o];simp
     subst A;have g:=F.o;go_wp2;go_ret;exact⟨rfl,g⟩
    .skip;have M:C=R:=by rw[<-j.o];simp
     subst M;clear j;go_wp2;apply J;clear J a2;exact vu hd E.1 F Q E.2.1 E.2.2
theorem yM(hd:d<=24)(X:oK (d+1)):yg d:=by
 intro a1 cs w W K;let ⟨k,l,c,s,t,x,y,body,els,id,sl,ot,lo⟩:=a1
 let ⟨R,J⟩:=eX (jv ah (.mk k l c s t x y body els id sl ot lo) d)
 rw[J];unfold jv at J;have a0:=K.cells.1;have M:bL w (w.alloc (.cells cs.toArray 60)):=(FB _ w).alloc rl _;have U:gy (w.alloc (.cells cs.toArray 60)) w.1.size 0 (.mk k l c s t x y body els id sl ot lo):=⟨cs,(ak.new w 60 cs).whole,K.below M⟩;have F:=O M;have D:=O U;have H:=O W;clear M U K a0 W;go_in;refine wk fun j g=>?_;go_wp2;apply g;clear g j;let ⟨z,C⟩:=eX (w.1.size)
 rw[C]at D;have F:=F;generalize w.alloc (.cells cs.toArray 60)=Z at *;rw[C];have c0:=D.parts.1;have E:=O J;clear J;have a2:¬ (24:Int)< (d:Int):=by omega
 rcases(show k<1∨15<k∨(1<=k/\k<=15) by omega) with G|G|⟨G,V⟩
 .have Q:R=false:=by rw[<-E.o,dv (show ¬1<=k by omega)];rfl
  subst Q;clear D E H;go_wp2;go_ret;exact⟨rfl,C▸F.o⟩
 .have Q:R=false:=by rw[<-E.o,dv (show ¬k<=15 by omega),If];rfl
  subst Q;have Y:¬k<1:=by omega
  clear D E H;go_wp2;go_ret;exact⟨rfl,C▸F.o⟩
 have Y:¬k<1:=by omega
 have h4:¬15<k:=by omega
 have N:=E.o;rw[eP G,eP V,eP hd,Gx,Gx,Gx]at N;clear E;have S:Hid (bL w Z):=by subst C;exact F
 have A:=O (EQ X (EQ S (EQ D (EQ H N))));clear N D F H X S;refine wk fun j g=>?_;go_wp2;apply g;clear g j;refine wk fun j g=>?_;go_wp2;apply g;clear g j;have a3:k=1∨k=2∨k=3∨k=4∨k=5∨k=6∨k=7∨k=8∨k=9∨k=10∨k=11∨k=12∨k=13∨k=14∨k=15:=by omega
 clear G V Y h4 c0;rcases a3 with rfl|rfl|rfl|rfl|rfl|rfl|rfl|rfl|rfl|rfl|rfl|rfl|rfl|rfl|rfl
 .skip;refine wk fun j g=>?_;go_wp2;apply g;clear g j;refine wk fun j g=>?_;go_wp2;apply g;clear g j;refine wk fun j g=>?_;go_wp2;apply g;clear g j;subst C;apply hF hd A.1 A.2.1 A.2.2.1 A.2.2.2.1;exact A.2.2.2.2
 .skip;refine wk fun j g=>?_;go_wp2;apply g;clear g j;refine wk fun j g=>?_;go_wp2;apply g;clear g j;refine wk fun j g=>?_;go_wp2;apply g;clear g j;subst C;apply hF hd A.1 A.2.1 A.2.2.1 A.2.2.2.1;exact A.2.2.2.2
 .skip;refine wk fun j g=>?_;go_wp2;apply g;clear g j;refine wk fun j g=>?_;go_wp2;apply g;clear g j;refine wk fun j g=>?_;go_wp2;apply g;clear g j;subst C;apply hF hd A.1 A.2.1 A.2.2.1 A.2.2.2.1;exact A.2.2.2.2
 .skip;refine wk fun j g=>?_;go_wp2;apply g;clear g j;refine wk fun j g=>?_;go_wp2;apply g;clear g j;refine wk fun j g=>?_;go_wp2;apply g;clear g j;subst C;apply hF hd A.1 A.2.1 A.2.2.1 A.2.2.2.1;exact A.2.2.2.2
 .skip;refine wk fun j g=>?_;go_wp2;apply g;clear g j;refine wk fun j g=>?_;go_wp2;apply g;clear g j;refine wk fun j g=>?_;go_wp2;apply g;clear g j;subst C;apply hF hd A.1 A.2.1 A.2.2.1 A.2.2.2.1;exact A.2.2.2.2
 .skip;refine wk fun j g=>?_;go_wp2;apply g;clear g j;refine wk fun j g=>?_;go_wp2;apply g;clear g j;refine wk fun j g=>?_;go_wp2;apply g;clear g j;subst C;apply hF hd A.1 A.2.1 A.2.2.1 A.2.2.2.1;exact A.2.2.2.2
 .skip;refine wk fun j g=>?_;go_wp2;apply g;clear g j;refine wk fun j g=>?_;go_wp2;apply g;clear g j;refine wk fun j g=>?_;go_wp2;apply g;clear g j;subst C;apply hF hd A.1 A.2.1 A.2.2.1 A.2.2.2.1;exact A.2.2.2.2
 .skip;refine wk fun j g=>?_;go_wp2;apply g;clear g j;refine wk fun j g=>?_;go_wp2;apply g;clear g j;refine wk fun j g=>?_;go_wp2;apply g;clear g j;subst C;apply hF hd A.1 A.2.1 A.2.2.1 A.2.2.2.1;exact A.2.2.2.2
 .skip;refine wk fun j g=>?_;go_wp2;apply g;clear g j;refine wk fun j g=>?_;go_wp2;apply g;clear g j;refine wk fun j g=>?_;go_wp2;apply g;clear g j;subst C;apply hF hd A.1 A.2.1 A.2.2.1 A.2.2.2.1;exact A.2.2.2.2
 .skip;refine wk fun j g=>?_;go_wp2;apply g;clear g j;refine wk fun j g=>?_;go_wp2;apply g;clear g j;refine wk fun j g=>?_;go_wp2;apply g;clear g j;subst C;apply hF hd A.1 A.2.1 A.2.2.1 A.2.2.2.1;exact A.2.2.2.2
 .skip;refine wk fun j g=>?_;go_wp2;apply g;clear g j;refine wk fun j g=>?_;go_wp2;apply g;clear g j;refine wk fun j g=>?_;go_wp2;apply g;clear g j;subst C;apply hF hd A.1 A.2.1 A.2.2.1 A.2.2.2.1;exact A.2.2.2.2
 .skip;refine wk fun j g=>?_;go_wp2;apply g;clear g j;refine wk fun j g=>?_;go_wp2;apply g;clear g j;refine wk fun j g=>?_;go_wp2;apply g;clear g j;subst C;apply hF hd A.1 A.2.1 A.2.2.1 A.2.2.2.1;exact A.2.2.2.2
 .skip;refine wk fun j g=>?_;go_wp2;apply g;clear g j;refine wk fun j g=>?_;go_wp2;apply g;clear g j;refine wk fun j g=>?_;go_wp2;apply g;clear g j;subst C;apply hF hd A.1 A.2.1 A.2.2.1 A.2.2.2.1;exact A.2.2.2.2
 .skip;refine wk fun j g=>?_;go_wp2;apply g;clear g j;refine wk fun j g=>?_;go_wp2;apply g;clear g j;refine wk fun j g=>?_;go_wp2;apply g;clear g j;subst C;apply hF hd A.1 A.2.1 A.2.2.1 A.2.2.2.1;exact A.2.2.2.2
 .skip;refine wk fun j g=>?_;go_wp2;apply g;clear g j;refine wk fun j g=>?_;go_wp2;apply g;clear g j;refine wk fun j g=>?_;go_wp2;apply g;clear g j;subst C;apply hF hd A.1 A.2.1 A.2.2.1 A.2.2.2.1;exact A.2.2.2.2
theorem xh:yg 25:=by
 intro J cs w K E;let ⟨k,l,c,s,t,x,y,body,els,id,sl,ot,lo⟩:=J
 have F:jv ah (.mk k l c s t x y body els id sl ot lo) 25=false:=by unfold jv;rw[dv (show ¬25<=24 by omega),HD,If]
 rw[F];have A:bL w (w.alloc (.cells cs.toArray 60)):=(FB _ w).alloc rl _;have G:gy (w.alloc (.cells cs.toArray 60)) w.1.size 0 (.mk k l c s t x y body els id sl ot lo):=⟨cs,(ak.new w 60 cs).whole,E.below A⟩;have j:=O A;have C:=O G;clear A G E K F;go_in;refine wk fun M D=>?_;go_wp2;apply D;clear D M;let ⟨z,g⟩:=eX (w.1.size)
 rw[g]at C;have j:=j;generalize w.alloc (.cells cs.toArray 60)=Q at *;rw[g];have c0:=C.parts.1;clear C;rcases(show k<1∨15<k∨(1<=k/\k<=15) by omega) with H|H|⟨H,S⟩
 .go_wp2;go_ret;exact⟨rfl,g▸j.o⟩
 .have N:¬k<1:=by omega
  go_wp2;go_ret;exact⟨rfl,g▸j.o⟩
 .have N:¬k<1:=by omega
  have R:¬15<k:=by omega
  go_wp2;go_ret;exact⟨rfl,g▸j.o⟩
theorem zp{l:List St}(h:St.DJ l)(g:i<l.length):(l.getD i default).nb:=by rw[FD,FC g];exact St.DM h (FC g)
theorem pj{nm:ByteArray->Bool}{l:List St}(h:i<l.length):bB nm (l.drop i) d=(jv nm (l.getD i default) d&&bB nm (l.drop (i+1)) d):=by rw[FZ h,bB,FD,FC h];rfl
theorem eK.row{cap:Nat}{l:List St}(h:eK w a cap l)(C:j<l.length):∃ (b g:Nat) (cs:List Fr),a=some (ad b g)/\w.rangeAt b (g+j*25) cs/\bX (fun _=>True) w cs (l.getD j default):=by obtain⟨b,g,cs,F,-,E,D⟩:=h.2.at j C;exact⟨b,g,cs,F,fun i v A=>by have:=E i v A;rwa [GE]at this,D⟩
theorem uv(Z:yg d):oK d:=by
 intro l a cap w Y E;let ⟨a1,a2,a3⟩:=cv
 let ⟨g,M⟩:=eX (l.length)
 let ⟨R,j⟩:=eX (bB ah (l.drop 0) d)
 rw[show bB ah l d=R from j];have S:=E.1;rw[M]at S ⊢;have W:=O M;have D:=O j;have A:=O (EQ (FB w.1.size w) E);have a9:=O Y;have b4:=O Z;clear M j E Y Z;go_in;go_wp2;go_loopg [5] g (fun x iv wr=>∃i:Nat,i<=g/\x=g-i/\iv=I i/\Hid (bL w wr/\eK wr a cap l)/\Hid (bB ah (l.drop i) d=R));case atStart=>exact⟨0,FX _,z,z,A,D⟩
 case round=>
  clear A D;obtain⟨i,hi,rfl,rfl,A,D⟩:=hrel;let ⟨F,C⟩:=A
  by_cases a8:i<g
  .have a6:(i:Int)< (g:Int):=by omega
   have b8:(0:Int)<=(i:Int):=by omega
   have b7:(i:Int)+1<=9223372036854775807:=by have C:=S.1;have h2:=S.2;omega
   have N:i<l.length:=by rw[W.o];exact a8
   obtain⟨b2,a4,cs,rfl,U,J⟩:=C.row N;have X:=(zp a9 N);have G:=b4 (l.getD i default) cs wr X J;have E:=J.cells.1;have j:=D.o;rw[pj N]at j;let ⟨m,V⟩:=eX (jv ah (l.getD i default) d)
   rw[V]at G j;have Q:=O j;have b6:=O U;have HL:=O E;clear J X U E V j D;go_wp2_with (with_reducible refine l0 60 ?_;refine Gn z 60 (.tmp 14) z b2 (a4+i*25) z cs a1 b6.o a2 a3 (by rw[HL.o];exact ar) ?_);apply G.mono;rintro e w2 ⟨rfl,H⟩;have K:=F.trans (H.mono F.size);cases m
   .have b5:R=false:=Q.symm;subst b5;clear A G C F H;go_wp2;go_ret;exact⟨z,K⟩
   .have a5:Hid (bB ah (l.drop (i+1)) d=R):=O Q;have a0:=O (EQ K (C.below H));clear A G C F H K Q;go_wp2;go_roundg (g- (i+1));case measure=>omega
    case rel=>exact⟨i+1,by omega,z,z,a0,a5⟩
  .obtain rfl:i=g:=by omega
   have a6:¬ (i:Int)< (i:Int):=by omega
   have a7:R=true:=by rw[<-D.o,Gw (by rw[W.o];exact FL _)];unfold bB;rfl
   subst a7;clear C A;go_wp2;go_ret;exact⟨z,F⟩
theorem tF:∀ (m d:Nat),d+m=25->oK d
  |0,d,h=>by
    obtain rfl:d=25:=by omega
    exact uv xh
  |m+1,d,h=>uv (yM (by omega) (tF m (d+1) (by omega)))
theorem pr{nm:ByteArray->Bool}{l:List De}(h:i<l.length):co nm (l.drop i)=(fI nm (l.getD i default)&&co nm (l.drop (i+1))):=by rw[FZ h];show (fI nm l[i]&&_)=_;rw[FD,FC h];rfl
theorem kp(l:List De)(a:Option Addr)(cap:Nat)(w:Fk)(d1:aF l.length cap)(h:cQ (fun _=>True) w a l)(e6:∀d∈l,d.nb):Jq prog 16 #[.slice a l.length cap] w fun e w'=>e= .returned (I (if co ah l=true then 0 else 2))/\bL w w':=by
 let ⟨d5,d4,d2⟩:=ek
 let ⟨Q,hN⟩:=eX (l.length)
 let ⟨R,W⟩:=eX (co ah (l.drop 0))
 rw[show co ah l=R from W];rw[hN]at d1 ⊢;have HN:=O hN;have HR:=O W;have V:=O (EQ (FB w.1.size w) h);have f0:=O e6;have f3:=O (tF 24 1 rfl);clear hN W h e6;go_in;go_wp2;go_loopg [3] Q (fun x iv wr=>∃i:Nat,i<=Q/\x=Q-i/\iv=I i/\Hid (bL w wr/\cQ (fun _=>True) wr a l)/\Hid (co ah (l.drop i)=R));case atStart=>exact⟨0,FX _,rfl,rfl,V,HR⟩
 case round=>
  clear V HR;obtain⟨i,hi,rfl,rfl,V,HR⟩:=hrel;by_cases e8:i<Q
  .have f4:(i:Int)< (Q:Int):=by omega
   have f8:(0:Int)<=(i:Int):=by omega
   have f1:(i:Int)+1<=9223372036854775807:=by have h1:=d1.1;have h2:=d1.2;omega
   have a7:Hid (wrap64 ((i:Int)+1)=((i+1:Nat):Int)):=O (by rw[IntWalk.wrap64_in _ (by omega)];omega);clear f1;have a3:i<l.length:=by rw[HN.o];exact e8
   obtain⟨b2,a6,cs,rfl,-,d0,b5⟩:=V.2 i a3;have b8:=b5.cells.1;have b6:=b5.cells.2;have a0:=f0 (l.getD i default) (by rw[FD,FC a3];exact Gy a3);have W:=HR.o;rw[pr a3]at W;let ⟨d,hd⟩:=eX (l.getD i default)
   rw[hd]at b5 a0 W;let ⟨k,ln,c,s,n,body⟩:=d
   obtain⟨N,S,rfl,d3,c9⟩:=b5;let ⟨m,hm⟩:=eX (fI ah ⟨k,ln,c,s,n,body⟩)
   rw[hm]at W;unfold fI at hm;dsimp only at b8 b6 d3 c9 d0 hm ⊢;unfold De.nb at a0;dsimp only at a0;have a9:=O (show wr.rangeAt b2 (a6+i*6) _ from fun j v hv=>d0 j v hv);let ⟨J,a8⟩:=eX (body.length)
   have e5:Hid (eK wr N S body/\body.length=J):=O ⟨⟨d3,c9⟩,a8⟩;rw[a8]at hm b8 b6 a9;have a2:bL wr (wr.alloc (.cells #[I k,I ln,I c,.string s,I n,.slice N J S] 46)):=(FB _ wr).alloc rl _;have d6:=ak.new wr 46 [I k,I ln,I c,.string s,I n,.slice N J S];have a4:=fun b7=>fB s b7 a0.1;have b9:=fun b7 (hV:bL wr b7)=>f3 body N S b7 a0.2 (e5.1.below hV);rw[a8]at b9;let ⟨p,hp⟩:=eX (ah s)
   let ⟨mb,b4⟩:=eX (bB ah body 1)
   rw[hp]at a4 hm;rw[b4]at b9 hm;have F:Hid (J=0->mb=true):=O (fun h0=>by have:=List.eq_nil_of_length_eq_zero (a8.trans h0);rw[this]at b4;rw[<-b4];unfold bB;rfl)
   have g:=O (EQ hm W);have E:=O b9;have HV:=O (EQ (V.1.trans (a2.mono V.1.size)) (EQ a2 (EQ d6 (V.2.below a2))));have c0:=d6.cell 0;simp only[FE]at c0;have a1:=O b8;have d7:=O b6;clear d3 c9 a2 d6 d0 hd V HR hm W a8 hp b4 a0 b9 e5 b8 b6 a3;have h7:wr.1.size=wr.1.size:=rfl;clear h7;rcases(show k<1∨6<k∨(1<=k/\k<=6) by omega) with h1|h1|⟨h1,h2⟩
   .have C:m=false:=by
     rw[<-g.o.1];have e1:¬k=1:=by omega
     have e2:¬ (k=2∨k=5):=by omega
     have e3:¬ (k=3∨k=4):=by omega
     have e4:¬k=6:=by omega
     rw[am e1,am e2,am e3,am e4];simp
    have D:R=false:=by rw[<-g.o.2,C];rfl
    subst D;have d8:=O HV.1;clear g F E HV a4 C;go_wp2_with (first| ((with_reducible refine gU _ (.load 46 (.tmp 14)) ?_);refine Gn rfl 46 (.tmp 14) rfl b2 (a6+i*6) rfl _ d5 a9 d4 d2 (by rw[a1.o];exact aR) ?_)| (with_reducible refine s0 46 ?_;refine bf aR rfl (.tmp 4) (.tmp 15) rfl wr [I 0,I 0,I 0,.string ⟨#[]⟩,I 0,.slice none 0 0] [I k,I ln,I c,.string s,I n,.slice N J S] rfl rfl a1 d7 _ rfl rfl rfl ?_));go_ret;exact⟨rfl,d8⟩
   .have C:m=false:=by
     rw[<-g.o.1];have e1:¬k=1:=by omega
     have e2:¬ (k=2∨k=5):=by omega
     have e3:¬ (k=3∨k=4):=by omega
     have e4:¬k=6:=by omega
     rw[am e1,am e2,am e3,am e4];simp
    have D:R=false:=by rw[<-g.o.2,C];rfl
    subst D;have h3:¬k<1:=by omega
    have d8:=O HV.1;clear g F E HV a4;go_wp2_with (first| ((with_reducible refine gU _ (.load 46 (.tmp 14)) ?_);refine Gn rfl 46 (.tmp 14) rfl b2 (a6+i*6) rfl _ d5 a9 d4 d2 (by rw[a1.o];exact aR) ?_)| (with_reducible refine s0 46 ?_;refine bf aR rfl (.tmp 4) (.tmp 15) rfl wr [I 0,I 0,I 0,.string ⟨#[]⟩,I 0,.slice none 0 0] [I k,I ln,I c,.string s,I n,.slice N J S] rfl rfl a1 d7 _ rfl rfl rfl ?_));go_ret;exact⟨rfl,d8⟩
   have h3:¬k<1:=by omega
   have h4:¬6<k:=by omega
   go_wp2_with (first| ((with_reducible refine gU _ (.load 46 (.tmp 14)) ?_);refine Gn rfl 46 (.tmp 14) rfl b2 (a6+i*6) rfl _ d5 a9 d4 d2 (by rw[a1.o];exact aR) ?_)| (with_reducible refine s0 46 ?_;refine bf aR rfl (.tmp 4) (.tmp 15) rfl wr [I 0,I 0,I 0,.string ⟨#[]⟩,I 0,.slice none 0 0] [I k,I ln,I c,.string s,I n,.slice N J S] rfl rfl a1 d7 _ rfl rfl rfl ?_));let ⟨z,hz⟩:=eX (wr.1.size)
   have e7:Hid (bL w (wr.alloc (.cells ([I k,I ln,I c,.string s,I n,.slice N J S]:List Fr).toArray 46))/\bL wr (wr.alloc (.cells ([I k,I ln,I c,.string s,I n,.slice N J S]:List Fr).toArray 46))/\ak (wr.alloc (.cells ([I k,I ln,I c,.string s,I n,.slice N J S]:List Fr).toArray 46)) z 46 [I k,I ln,I c,.string s,I n,.slice N J S]/\cQ (fun _=>True) (wr.alloc (.cells ([I k,I ln,I c,.string s,I n,.slice N J S]:List Fr).toArray 46)) (some (ad b2 a6)) l):=hz▸HV;apply (a4 _).mono;rw[hz]at c0 ⊢;clear HV a9;generalize wr.alloc (.cells ([I k,I ln,I c,.string s,I n,.slice N J S]:List Fr).toArray 46)=V0 at *;rintro e V1 ⟨rfl,a5⟩;let ⟨B1,B2,d9,e0⟩:=e7
   have c8:=d9.below a5;have A:=O (EQ (B1.trans (a5.mono B1.size)) (EQ (B2.trans (a5.mono B2.size)) (e0.below a5)));have c4:=c8.cell 4;have c5:=c8.cell 5;simp only[FH,FE]at c4 c5;clear B1 B2 d9 e0 e7 a5 c8 c0 a4;cases p
   .skip;have C:m=false:=by rw[<-g.o.1];simp
    have D:R=false:=by rw[<-g.o.2,C];rfl
    subst D;have G:=A.1;clear g F E A C;go_wp2;go_ret;exact⟨rfl,G⟩
   rcases bq k 6 with k6|k6
   .have f5:(k !=6)=true:=by simpa using k6
    rcases bq J 0 with n1|n1
    .have f6:(0:Int)< (J:Int):=by omega
     have C:m=false:=by rw[<-g.o.1];simp[k6,n1]
     have D:R=false:=by rw[<-g.o.2,C];rfl
     subst D;have G:=A.1;clear g F E A C;go_wp2;go_ret;exact⟨rfl,G⟩
    subst n1;rcases(show 2147483647<n∨n< -2147483647∨(-2147483647<=n/\n<=2147483647) by omega) with g1|g1|⟨g1,g2⟩
    .have g2:¬n<=2147483647:=by omega
     have Y:¬n=0:=by omega
     have C:m=false:=by rw[<-g.o.1];simp[g2,Y]
     have D:R=false:=by rw[<-g.o.2,C];rfl
     subst D;have G:=A.1;clear g F E A C;go_wp2;go_ret;exact⟨rfl,G⟩
    .have g2:¬ -2147483647<=n:=by omega
     have Y:¬n=0:=by omega
     have g4:¬0<=n:=by omega
     have g5:¬2147483647<n:=by omega
     have C:m=false:=by rw[<-g.o.1];simp[g2,Y,g4]
     have D:R=false:=by rw[<-g.o.2,C];rfl
     subst D;have G:=A.1;clear g F E A C;go_wp2;go_ret;exact⟨rfl,G⟩
    have Y:¬n< -2147483647:=by omega
    have g4:¬2147483647<n:=by omega
    rcases bq k 1 with k1|k1
    .have g6:(k !=1)=true:=by simpa using k1
     rcases(show n<0∨0<=n by omega) with j1|j1
     .have j2:¬0<=n:=by omega
      have j3:¬n=0:=by omega
      have C:m=false:=by rw[<-g.o.1];simp[k1,j2,j3]
      have D:R=false:=by rw[<-g.o.2,C];rfl
      subst D;have G:=A.1;clear g F E A C;go_wp2;go_ret;exact⟨rfl,G⟩
     have j2:¬n<0:=by omega
     rcases bq k 2 with k2|k2
     .have f7:(k !=2)=true:=by simpa using k2
      rcases bq k 5 with k5|k5
      .have f9:(k !=5)=true:=by simpa using k5
       rcases bq n 0 with Z|Z
       .have f2:(n !=0)=true:=by simpa using Z
        have C:m=false:=by rw[<-g.o.1];simp[k1,k2,k5,Z,k6]
        have D:R=false:=by rw[<-g.o.2,C];rfl
        subst D;have G:=A.1;clear g F E A C;go_wp2;go_ret;exact⟨rfl,G⟩
       subst Z;have g7:k=3∨k=4:=by omega
       have K:=E V1 A.2.1;go_wp2_with fail;apply K.mono;rintro e V2 ⟨rfl,H⟩;have U:=O (EQ (A.1.trans (H.mono A.1.size)) (A.2.2.below H));obtain rfl:mb=true:=F trivial;have M:m=true:=by rw[<-g.o.1];simp[*]
       have X:Hid (co ah (l.drop (i+1))=R):=O (by rw[<-g.o.2,M];rfl);clear g F E A K H c4 c5 M;go_wp2;go_roundg (Q- (i+1));case measure=>omega
       case rel=>exact⟨i+1,by omega,rfl,congrArg (Gr .i64) (a7),U,X⟩
      .subst k5;have K:=E V1 A.2.1;go_wp2_with fail;apply K.mono;rintro e V2 ⟨rfl,H⟩;have U:=O (EQ (A.1.trans (H.mono A.1.size)) (A.2.2.below H));obtain rfl:mb=true:=F trivial;have M:m=true:=by rw[<-g.o.1];simp[*]
       have X:Hid (co ah (l.drop (i+1))=R):=O (by rw[<-g.o.2,M];rfl);clear g F E A K H c4 c5 M;go_wp2;go_roundg (Q- (i+1));case measure=>omega
       case rel=>exact⟨i+1,by omega,rfl,congrArg (Gr .i64) (a7),U,X⟩
     .subst k2;have K:=E V1 A.2.1;go_wp2_with fail;apply K.mono;rintro e V2 ⟨rfl,H⟩;have U:=O (EQ (A.1.trans (H.mono A.1.size)) (A.2.2.below H));obtain rfl:mb=true:=F trivial;have M:m=true:=by rw[<-g.o.1];simp[*]
      have X:Hid (co ah (l.drop (i+1))=R):=O (by rw[<-g.o.2,M];rfl);clear g F E A K H c4 c5 M;go_wp2;go_roundg (Q- (i+1));case measure=>omega
      case rel=>exact⟨i+1,by omega,rfl,congrArg (Gr .i64) (a7),U,X⟩
    .subst k1;have K:=E V1 A.2.1;go_wp2_with fail;apply K.mono;rintro e V2 ⟨rfl,H⟩;have U:=O (EQ (A.1.trans (H.mono A.1.size)) (A.2.2.below H));obtain rfl:mb=true:=F trivial;have M:m=true:=by rw[<-g.o.1];simp[*]
     have X:Hid (co ah (l.drop (i+1))=R):=O (by rw[<-g.o.2,M];rfl);clear g F E A K H c4 c5 M;go_wp2;go_roundg (Q- (i+1));case measure=>omega
     case rel=>exact⟨i+1,by omega,rfl,congrArg (Gr .i64) (a7),U,X⟩
   .subst k6;rcases(show 2147483647<n∨n< -2147483647∨(-2147483647<=n/\n<=2147483647) by omega) with g1|g1|⟨g1,g2⟩
    .have Y:¬n=0:=by omega
     have C:m=false:=by rw[<-g.o.1];simp[Y]
     have D:R=false:=by rw[<-g.o.2,C];rfl
     subst D;have G:=A.1;clear g F E A C;go_wp2;go_ret;exact⟨rfl,G⟩
    .have Y:¬n=0:=by omega
     have g5:¬2147483647<n:=by omega
     have C:m=false:=by rw[<-g.o.1];simp[Y]
     have D:R=false:=by rw[<-g.o.2,C];rfl
     subst D;have G:=A.1;clear g F E A C;go_wp2;go_ret;exact⟨rfl,G⟩
    have Y:¬n< -2147483647:=by omega
    have g4:¬2147483647<n:=by omega
    rcases(show n<0∨0<=n by omega) with j1|j1
    .have j3:¬n=0:=by omega
     have C:m=false:=by rw[<-g.o.1];simp[j3]
     have D:R=false:=by rw[<-g.o.2,C];rfl
     subst D;have G:=A.1;clear g F E A C;go_wp2;go_ret;exact⟨rfl,G⟩
    have j2:¬n<0:=by omega
    rcases bq n 0 with Z|Z
    .have f2:(n !=0)=true:=by simpa using Z
     have C:m=false:=by rw[<-g.o.1];simp[Z]
     have D:R=false:=by rw[<-g.o.2,C];rfl
     subst D;have G:=A.1;clear g F E A C;go_wp2;go_ret;exact⟨rfl,G⟩
    subst Z;have K:=E V1 A.2.1;go_wp2_with fail;apply K.mono;rintro e V2 ⟨rfl,H⟩;have U:=O (EQ (A.1.trans (H.mono A.1.size)) (A.2.2.below H));cases mb
    .have C:m=false:=by rw[<-g.o.1];simp
     have D:R=false:=by rw[<-g.o.2,C];rfl
     subst D;have G:=U.1;clear g F E A U K H c4 c5;go_wp2;go_ret;exact⟨rfl,G⟩
    have M:m=true:=by rw[<-g.o.1];simp
    have X:Hid (co ah (l.drop (i+1))=R):=O (by rw[<-g.o.2,M];rfl);clear g F E A K H c4 c5 M;go_wp2;go_roundg (Q- (i+1));case measure=>omega
    case rel=>exact⟨i+1,by omega,rfl,congrArg (Gr .i64) (a7),U,X⟩
  .obtain rfl:i=Q:=by omega
   have f4:¬ (i:Int)< (i:Int):=by omega
   have e9:R=true:=by rw[<-HR.o,Gw (by rw[HN.o];exact FL _)];rfl
   subst e9;have a2:=V.1;clear V;go_wp2;go_ret;exact⟨rfl,a2⟩
end Go.Proofs.YtgppcdfgdaggjaaGreatDoor
