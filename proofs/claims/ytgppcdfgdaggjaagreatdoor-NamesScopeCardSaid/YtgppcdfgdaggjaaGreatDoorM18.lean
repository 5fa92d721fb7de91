/- Texts laid together. No condition but what each law says. -/
import Derived.Test.YtgppcdfgdaggjaaGreatDoorM17
import Derived.Test.YtgppcdfgdaggjaaGreatDoorM14
set_option maxRecDepth 100000
set_option maxHeartbeats 16000000
namespace Go.Proofs.YtgppcdfgdaggjaaGreatDoor
open Go.RowKit Go.Maps Go.Proofs.Tryz
open Go renaming World→Fk,Value→Fr,Calls→Jq,wpList_load_mid→Gn,Program→Hu,bodyPost→Gb,wpQuiet_nil→Hi
open Go.World renaming block_lt_of_cell?→FF,cell?→FI,alloc_heap_new→Df
open List renaming take_succ_cons→Gu,getElem?_cons_succ→FH,getElem?_cons_zero→FE,drop_eq_nil_of_le→Gw,getElem?_eq_getElem→FC,find?_some→He,mem_of_find?_eq_some→Gl,range→GU,getD_eq_getElem?_getD→FD,getElem?_map→HZ,mem_cons→FQ,not_mem_nil→FO,drop_succ_cons→Gv,drop_zero→GD,take_zero→GL
open And renaming intro→EQ
open Go.RowKit renaming Below→FM
open Go.RowKit.Below renaming refl→FB,heap_setCell→FK
open Nat renaming le_refl→FL,zero_le→FX,zero_add→GE
open Go.ByteArray renaming toList_eq→Iy
open Bool renaming and_eq_true→FG,true_and→Gx,false_eq_true→FN,false_ne_true→FY,false_and→HD,and_false→If
open Go.Code renaming wp→FR
variable {V W w:Fk}{a:Option Addr}{b d g i j k m n:Nat}{s s6 s7 t:ByteArray}{S:bp}{p0 p1 p2 p3:Int}{v0 v1 v2:Fr}{l2:List Fr}{e0 e1:Ex}{T0:List St}{z0 z1 z2 z3 z4 z5 z6:Bool}
def dT(w:Fk)(a:Option Addr)(l:List Ex):Prop:=ch (fun _=>True) w a 0 l
theorem dT.at{l:List Ex}(h:dT w a l)(F:j<l.length):∃b g cs,a=some (ad b g)/\w.rangeAt b (g+j*7) cs/\ExL (fun _=>True) w cs (l.getD j aT):=by obtain⟨b,g,cs,D,-,A,C⟩:=ch.at h j F;exact⟨b,g,cs,D,fun t v E=>by simpa using A t v E,C⟩
theorem ExL.below{w':Fk}{cs:List Fr}{x:Ex}(h:ExL (fun _=>True) w cs x)(j:bL w w'):ExL (fun _=>True) w' cs x:=
 ExL.keep (fun b o v _ g=>by rw[<-g];simp[FI,j.block b (FF w _ g)]) h
theorem dT.below{w':Fk}{l:List Ex}(h:dT w a l)(j:bL w w'):dT w' a l:=
 ch.keep (fun b o v _ g=>by rw[<-g];simp[FI,j.block b (FF w _ g)]) h
theorem nF{l:List Ex}(h:i<l.length):Ex.Dl (l.take (i+1))=max (Ex.Dl (l.take i)) (l.getD i aT).depth:=by
 induction l generalizing i with
 |nil=>cases h
 |cons e r g=>
  cases i with
  |zero=>simp[Ex.Dl]
  |succ i=> have:=g (i:=i) (by simpa using h);simp only[Gu,Ex.Dl,this,Nat.max_assoc,List.getD_cons_succ]
theorem sZ{l:List Ex}(h:Ex.Dl l<=n)(g:j<l.length):(l.getD j aT).depth<=n:=(iY n l).1 h j g
theorem kt:∀ (n:Nat) (x:Ex) (cs:List Fr) (w:Fk),n<=9223372036854775806->x.depth<=n->ExL (fun _=>True) w cs x->Jq prog 100 #[.agg cs.toArray] w fun e w'=>e= .returned (I x.depth)/\FM w.1.size w w':=by
 intro n;induction n with
 |zero=>
  intro x cs w hn A h;let ⟨k,n,s,sl,lo,o,args⟩:=x
  simp[Ex.depth]at A
 |succ n ih=>
  intro x cs w hn A h;let ⟨k,N,s,sl,lo,o,args⟩:=x
  unfold ExL at h;obtain⟨a,cap,rfl,W,a1⟩:=h;rw[Ex.depth]at A ⊢;have a3:Ex.Dl args<=n:=by omega
  obtain⟨D,U⟩:=eX (Ex.Dl args);have hX:dT w a args:=a1;have H:FM w.1.size w (w.alloc (.cells #[I k,I N,.string s,I sl,.bool lo,I o,.slice a args.length cap] 58)):=(FB _ w).alloc (FL _) _;have Z:=ak.new w 58 [I k,I N,.string s,I sl,.bool lo,I o,.slice a args.length cap];have S:=hX.below H;obtain⟨g,V⟩:=eX args.length;rw[V]at W H Z S ⊢;rw[U];have C:=O (EQ H (EQ Z S));have F:=O V;have HD:=O U;have a0:=O a3;clear a1 hX H Z S V a3 U A;let ⟨a8,b6,b5⟩:=gf
  go_enter func100,ntmps100;go_wp2;generalize w.alloc (.cells #[I k,I N,.string s,I sl,.bool lo,I o,.slice a g cap] 58)=W0 at *;go_loopg [3,4] g (fun x mv iv wr=>∃ (i m:Nat),i<=g/\x=g-i/\iv=I i/\mv=I m/\Hid (FM w.1.size w wr/\ak wr w.1.size 58 [I k,I N,.string s,I sl,.bool lo,I o,.slice a g cap]/\dT wr a args)/\Hid (Ex.Dl (args.take i)=m));case atStart=>exact⟨0,0,FX _,z,z,z,C,O z⟩
  case round=>
   clear C;obtain⟨i,m,hi,rfl,rfl,rfl,C,Q⟩:=hrel;let ⟨J,M,E⟩:=C
   have z6:=M.cell 6;simp only[FH,FE]at z6;by_cases Y:i<g
   .have a9:(i:Int)< (g:Int):=by omega
    have b9:(0:Int)<=(i:Int):=by omega
    have c8:(i:Int)+1<=9223372036854775807:=by have E:=W.1;have h2:=W.2;omega
    obtain⟨b2,b7,cs,rfl,hr,A⟩:=E.at (j:=i) (by rw[F.o];exact Y);have a4:=sZ a0 (j:=i) (by rw[F.o];exact Y);have X:=ih (args.getD i aT) cs wr (by omega) a4 A;have hl:=A.cells.1;have G:=nF (l:=args) (i:=i) (by rw[F.o];exact Y);rw[Q.o]at G;obtain⟨R,a2⟩:=eX ((args.getD i aT).depth);rw[a2]at X G a4;have a7:=O hr;have HL:=O hl;clear hr A hl;go_wp2_with ((with_reducible refine gU _ (.load 58 _) ?_);refine Gn z 58 (.tmp 16) z b2 (b7+i*7) z cs a8 a7.o b6 b5 (by rw[HL.o];exact bC) ?_);apply X.mono;rintro e W1 ⟨rfl,K⟩;have a5:=O (EQ (J.trans (K.mono J.size)) (EQ (M.below K) (E.below K)));have a6:=O G;clear X K M E J C Q G a2;go_wp2;go_roundg (g- (i+1));case measure=>omega
    case rel=>exact⟨i+1,max m R,by omega,z,z,congrArg (Value.int .i64) (by omega),a5,a6⟩
   .obtain rfl:i=g:=by omega
    have a9:¬ (i:Int)< (i:Int):=by omega
    have b4:m=D:=by rw[<-Q.o,<-HD.o,List.take_of_length_le (by rw[F.o];exact FL _)]
    subst b4;have b8:(m:Int)+1<=9223372036854775807:=by have:=a0.o;have:=HD.o;omega
    clear M E C;go_wp2;go_ret;exact⟨z,J⟩
theorem cG(h:s.toList=t.toList):s=t:=by rw[Iy,Iy]at h;exact ByteArray.ext (Array.toList_inj.1 h)
theorem bq{g:Type}[DecidableEq g](a b:g):a≠b∨a=b:=(Decidable.em (a=b)).symm
theorem kT{P:Hu}{o:Oper}{a:Act}{w:Act->Prop}(h:o.quiet P a (fun w'=>w'=W) w):o.still P a W w:=by
 let ⟨v,A,j⟩:=h
 have g:=A W z;unfold Oper.quietAt at g;unfold Oper.still;generalize (execOp a.eval o).run P W=r at g;unfold Oper.quietUpon at g;unfold Oper.stillUpon;split at g
 .obtain⟨rfl,rfl⟩:=g;exact⟨z,j⟩
 .obtain⟨rfl,rfl⟩:=g;exact⟨z,j⟩
 .exact⟨g.1,v,g.2,j⟩
 .exact g.elim
theorem ee{P:Hu}{j:Array Oper}{w:Act->Prop}:∀ (l:List Oper) (a:Act),wpQuiet P j (fun w'=>w'=W) w l a->wpStill P j W w l a
 | [],_,h=>h
 |o::rest,a,h=>by
  unfold wpQuiet at h
  unfold wpStill
  split
  .rename_i g
   rw[aD g]at h
   exact Oper.still_mono (fun a h=>ee rest a h) (kT h)
  .rename_i g
   rw[am g]at h
   exact ee rest _ h
theorem ax{P:Hu}{id:Nat}{g:Exit->Act->Fk->Prop}{a:Act}{l:List Oper}(n:Nat)(j:P.follows .mixedOrders=true)(A:Region.lexTailB .any l.toArray n=true)
  (h:wpQuiet P l.toArray (fun w'=>w'=w.drew) (fun C=>wpList P l.toArray g (l.drop n) C w.drew) (l.take n) a):(Code.region id l.toArray true).wp P g a w:=
 wp_region_still_tail n j A (ee _ _ h)
theorem aS{P:Hu}{j:Array Oper}{C:List Oper}{g:Oper}{a:Act}{A:Exit->Act->Fk->Prop}(G:Region.wanted g (yielded j a.tmps)=true)(ty:TypeId)(x:Operand)(J:g.op= .load ty x)
  (b o:Nat)(H:a.eval x= .pointer (some (ad b o)))(cs:List Fr)(d:TypeDesc)(F:w.rangeAt b o cs)(D:P.underlying ty=some d)(hd:d.isRow=true)(K:(P.info? ty).map (·.size)=some cs.length)
  (h:wpList P j A C (a.put g.dst (.agg cs.toArray)) w):wpList P j A (g::C) a w:=
 wpList_step fun M E=>by rw[aD G];exact wp_load_mid ty x J b o H cs d F D hd K (E _ _ h)
def mu(M d:Nat):Prop:=∀ (l:List St) (a:Option Addr) (cap:Nat) (w:Fk),eK w a cap l->St.Ei M l->Jq prog 58 #[.slice a l.length cap,.int .i64 (d:Int)] w fun e w'=>FM w.1.size w w'/\e= .returned (fo (St.Da l d))
theorem gy.below{w':Fk}{s:St}(h:gy w b g s)(F:bL w w'):gy w' b g s:=by
 let ⟨cs,E,D⟩:=h
 have C:∀ (b o:Nat) (v:Fr),w.cell? (ad b o)=some v->w'.cell? (ad b o)=some v:=fun b o v A=>by rw[<-A];simp[FI,F.block b (FF w _ A)]
 exact⟨cs,fun j v A=>C _ _ _ (E j v A),bX.keep (fun b o v _ A=>C b o v A) D⟩
structure Bc (w:Fk) (q:Nat) (V:Fk) (a:Option Addr) (cap:Nat) (l:List St) (s:St):Prop where
 b:FM w.1.size w V
 z:ak V w.1.size 32 [.int .i64 0,.int .i64 0]
 l:eK V a cap l
 s:gy V q 0 s
theorem Bc.below{q:Nat}{cap:Nat}{l:List St}{s:St}(h:Bc w q W a cap l s)(g:bL W V):Bc w q V a cap l s:=
 ⟨h.b.trans (g.mono h.b.size),h.z.below g,h.l.below g,h.s.below g⟩
theorem ExL.at0{x:Ex}(h:dY w b j x):∃cs:List Fr,w.rangeAt b j cs/\cs.length=7/\ExL (fun _=>True) w cs x:=by
 let ⟨cs,A,g⟩:=h
 exact⟨cs,A,g.cells.1,g⟩
theorem kq(M d:Nat)(hM:M<=2000000)(hd:d<=25)(ih:d+1<=25->mu M (d+1)):mu M d:=by
 intro l a cap w h b6;let ⟨i4,j1,i8⟩:=cv
 let ⟨f1,h7,g8⟩:=gf
 have h9:=ak.new w 32 [I 0,I 0];have d5:FM w.1.size w (w.alloc (.cells #[I 0,I 0] 32)):=(FB _ w).alloc (FL _) _;have h0:=h.below d5;have i9:(w.alloc (.cells #[I 0,I 0] 32)).1.size=w.1.size+1:=by simp
 have e0:=h.1;obtain⟨R,g⟩:=eX (St.Da l d);obtain⟨Z,hN⟩:=eX l.length;rw[g];rw[hN]at e0 ⊢;have HR:=O g;have HN:=O hN;have HX:=O b6;have HE:=O (EQ d5 (EQ h9 h0));clear g hN d5 h9 h0 h b6;go_enter func58,ntmps58;go_wp2;generalize w.alloc (.cells #[I 0,I 0] 32)=W0 at *;go_loopg [6] Z (fun x iv wr=>∃i:Nat,i<=Z/\x=Z-i/\iv=I i/\Hid (FM w.1.size w wr/\ak wr w.1.size 32 [I 0,I 0]/\eK wr a cap l)/\Hid (St.Da (l.drop i) d=R));case atStart=>exact⟨0,FX _,z,z,HE,HR⟩
 case round=>
  clear HE HR i9;obtain⟨i,hi,rfl,rfl,HE,HR⟩:=hrel;let ⟨b5,a1,h1⟩:=HE
  by_cases i6:i<Z
  .have i7:(i:Int)< (Z:Int):=by omega
   have k2:(0:Int)<=(i:Int):=by omega
   have k6:(i:Int)+1<=9223372036854775807:=by have h1:=e0.1;have h2:=e0.2;omega
   obtain⟨s,hs⟩:∃s,l[i]? =some s:=⟨_,FC (by rw[HN.o];exact i6)⟩;have g:=HR.o;rw[kl hs]at g;have b7:=tp HX hs;obtain⟨b2,i0,rfl,cs,g9,hL⟩:=h1.at hs;have d9:=hL.cells.1;have f2:=hL.cells.2;have K:FM wr.1.size wr (wr.alloc (.cells cs.toArray 60)):=(FB _ wr).alloc (FL _) _;have HZ:=O (EQ (b5.alloc b5.size (.cells cs.toArray 60)) (EQ (a1.below K) (EQ (h1.below K) (ak.new wr 60 cs))));have h5:(wr.alloc (.cells cs.toArray 60)).1.size=wr.1.size+1:=by simp
   have e7:=O (bX.keep (w':=wr.alloc (.cells cs.toArray 60)) (fun b o v _ hv=>by rw[<-hv];simp[FI,K.block b (FF wr _ hv)]) hL);have e6:=O g9;have e5:=O g;have e9:=O b7;have j3:w.1.size<wr.1.size:=a1.lt;clear g9 hL K b5 a1 h1 HE g HR hs b7;go_upto_region 5 with (first| ((with_reducible refine gU _ (.load 60 _) ?_);refine Gn z 60 (.tmp 18) z b2 (i0+i*25) z cs i4 e6.o j1 i8 (by rw[d9];exact ar) ?_)| ((with_reducible refine cY (.store 60 _ _) ?_);refine bf ar z (.tmp 7) (.tmp 19) z wr fW.toList cs z z d9 f2 _ z z z ?_));obtain⟨q,hq⟩:=eX wr.1.size;rw[hq]at HZ h5 j3 ⊢;generalize wr.alloc (.cells cs.toArray 60)=W2 at *;let ⟨K,j,h2,g7⟩:=HZ
   have X:Bc w q W2 (some (ad b2 i0)) cap l s:=⟨K,j,h2,cs,g7.whole,e7⟩;let ⟨sk,sl,sc,sn,sw,sx,sy,sb,se,k9,l4,l3,l2⟩:=s
   have g:=e5.o;unfold St.deep at g;have d3:=O g;have b7:=e9.o;unfold St.xb at b7;let ⟨f8,g2,b6,h8⟩:=b7
   have f0:=O (EQ b6 h8);have b8:=O X;clear g e5 e9 e7 HZ e6 g7 d9 f2 b6 h8 h5 K j h2 X hq;by_cases i5:d=25
   .subst i5;have g:=d3.o;rw[aD (.inl (by decide))]at g;subst g;have X:=b8.o;obtain⟨-,H,J,-,-,A,C,⟨ab,a4,D,Q⟩,ae,a5,E,S⟩:=X.s.parts;simp only[GE]at H J D E A C;clear A C D Q E S;have j:=X.z;have K:=X.b;have a2:=O (EQ ((j.set1 0 (I sl)).set1 1 (I sc)) ((K.setCell (p:=(ad w.1.size 0)) (FL _) (I sl)).setCell (p:=(ad w.1.size 1)) (FL _) (I sc)));have z0:=j.cell 0;have z1:=j.cell 1;have g0:=j.frozen 0;have g1:=j.frozen 1;clear j K X;go_wp2;exact dC a2.1 z z z z ⟨a2.2,z⟩
   have k0:decide ((24:Int)< (d:Int))=false:=by simp;omega
   have j8:¬ (24:Int)< (d:Int):=by omega
   have X:=b8.o;obtain⟨-,H,J,-,-,A,C,⟨ab,a4,D,Q⟩,ae,a5,E,S⟩:=X.s.parts;simp only[GE]at H J D E A C;clear H J C D Q E S;let ⟨cx,h3,g4,f3⟩:=ExL.at0 A
   have d7:=kt M sx cx W2 (by omega) f8 f3;obtain⟨dx,f9⟩:=eX sx.depth;have c8:=d3;rw[f9]at d7 c8;have e3:=O h3;clear A f3 X h3 d3 f8 f9;go_wp2_with ((with_reducible refine gU _ (.load 58 _) ?_);refine aS z 58 (.tmp 23) z q 5 z cx f1 e3.o h7 g8 (by rw[g4];exact bC) ?_);apply d7.mono;rintro e W3 ⟨rfl,W⟩;have L3:=b8.below W;clear d7 W b8 e3 g4;by_cases k7:dx<=24
   .have j4:decide ((24:Int)< (dx:Int))=false:=by simp;omega
    have j5:¬ (24:Int)< (dx:Int):=by omega
    have e1:=O L3;obtain⟨-,H,J,-,-,A,C,⟨ab,a4,D,Q⟩,ae,a5,E,S⟩:=L3.s.parts;simp only[GE]at H J D E A C;clear H J A D Q E S;let ⟨cy,h4,g5,f4⟩:=ExL.at0 C
    have d8:=kt M sy cy W3 (by omega) g2 f4;obtain⟨dy,g3⟩:=eX sy.depth;have c9:=c8;rw[g3]at d8 c9;have e4:=O h4;clear C f4 L3 h4 c8 g2 g3;go_wp2_with ((with_reducible refine gU _ (.load 58 _) ?_);refine aS z 58 (.tmp 29) z q 12 z cy f1 e4 h7 g8 (by rw[g5];exact bC) ?_);apply d8.mono;rintro e W4 ⟨rfl,f5⟩;have L4:=e1.below f5;clear d8 f5 e1 e4 g5;by_cases k8:dy<=24
    .have j6:decide ((24:Int)< (dy:Int))=false:=by simp;omega
     have j7:¬ (24:Int)< (dy:Int):=by omega
     have g:=c9.o;rw[am (by omega)]at g;have e2:=O L4;obtain⟨-,H,J,-,-,A,C,⟨ab,a4,D,Q⟩,ae,a5,E,S⟩:=L4.s.parts;simp only[GE]at H J D E A C;clear H J A C E S;have f7:((d:Int)+1)=((d+1:Nat):Int):=by omega
     have d6:=ih (by omega) sb ab a4 _ Q f0.1;rw[<-f7]at d6;clear f7 Q L4 c9;have k1:(d:Int)+1<=9223372036854775807:=by omega
     have j9:(0:Int)<=(d:Int):=by omega
     go_wp2_with fail;apply d6.mono;rintro e G ⟨f6,rfl⟩;have L5:=e2.below f6;clear d6 f6 e2 D;have j2:w.1.size<G.1.size:=L5.z.lt;rcases hdb:St.Da sb (d+1) with _|⟨U,pc⟩
     .rw[hdb]at g;unfold fo;have i2:Hid (St.Da (l.drop (i+1)) d=R∨True):=O (.inr trivial);have a0:FM G.1.size G (G.alloc (.cells #[I 0,I 0] 32)):=(FB _ G).alloc (FL _) _;have L6:=L5.below a0;have a3:=ak.new G 32 [I 0,I 0];have b9:=O L5;have e8:=O (EQ a0 a3);have j0:(G.alloc (.cells #[I 0,I 0] 32)).1.size=G.1.size+1:=by simp
      obtain⟨-,H,J,-,-,A,C,⟨ab,a4,D,Q⟩,ae,a5,E,S⟩:=L6.s.parts;simp only[GE]at H J D E A C;clear H J A C D Q;have d2:=ih (by omega) se ae a5 _ S f0.2;rw[show (((d+1:Nat):Int))=(d:Int)+1 by omega]at d2;have d4:=O g;clear L6 L5 S a0 a3 hdb g i2;go_wp2_with fail;let ⟨a0,a3⟩:=e8
      clear e8 E;obtain⟨F,a7⟩:=eX G.1.size;rw[a7]at a3 j0 j2 a0 ⊢;change ak (G.alloc (.cells #[I 0,I 0] 32)) F 32 [I 0,I 0]at a3;generalize G.alloc (.cells #[I 0,I 0] 32)=W6 at *;apply d2.mono;rintro e W7 ⟨d1,rfl⟩;have a8:=a3.below d1;have d0:=a0.trans (d1.mono (by have:=a0.size;omega));have g:=d4.o;have y0:=a8.cell 0;have y1:=a8.cell 1;have x0:=a8.frozen 0;have x1:=a8.frozen 1;simp only[FH,FE]at y0 y1;have g6:F≠w.1.size:=by omega
      rcases hde:St.Da se (d+1) with _|⟨U,pc⟩
      .rw[hde]at g;unfold fo;have i3:Hid (St.Da (l.drop (i+1)) d=R):=O g;have a6:FM F G ((W7.setCell (ad F 0) (I 0)).setCell (ad F 1) (I 0)):=(d0.setCell (p:=(ad F 0)) (FL _) _).setCell (p:=(ad F 1)) (FL _) _;rw[<-a7]at a6;have Y:=b9.below a6;rw[a7]at Y;have i1:=O (EQ Y.b (EQ Y.z Y.l));clear a6 Y d0 a8 g hde b9 d2 d4 a0 d1 a3;go_wp2;go_roundg (Z- (i+1));case measure=>omega
       case rel=>exact⟨i+1,by omega,z,z,i1,i3⟩
      .rw[hde]at g;unfold fo;subst g;have a6:FM F G ((W7.setCell (ad F 0) (I U)).setCell (ad F 1) (I pc)):=(d0.setCell (p:=(ad F 0)) (FL _) _).setCell (p:=(ad F 1)) (FL _) _;rw[<-a7]at a6;have Y:=b9.below a6;rw[a7]at Y;have h6:=(a8.set1 0 (I U)).set1 1 (I pc);have a9:=O (EQ Y.b (EQ Y.z h6));clear a6 Y h6 d0 a8 hde b9 d2 d4 a0 d1 a3;go_upto_region 12 with fail;let ⟨W,N,V⟩:=a9
       clear a9 y0 y1 x0 x1;generalize (W7.setCell (ad F 0) (I U)).setCell (ad F 1) (I pc)=W8 at *;have b4:=O (EQ ((N.set1 0 (I U)).set1 1 (I pc)) ((W.setCell (p:=(ad w.1.size 0)) (FL _) (I U)).setCell (p:=(ad w.1.size 1)) (FL _) (I pc)));have z0:=N.cell 0;have z1:=N.cell 1;have g0:=N.frozen 0;have g1:=N.frozen 1;have y0:=V.cell 0;have y1:=V.cell 1;try simp only[FH,FE]at y0 y1
       clear N W V;go_wp2;exact dC b4.1 z z z z ⟨b4.2,z⟩
     .rw[hdb]at g;unfold fo;subst g;have N:=L5.z.alloc (.cells #[I U,I pc] 32);have W:=L5.b.alloc L5.b.size (.cells #[I U,I pc] 32);have V:=ak.new G 32 [I U,I pc];have g6:G.1.size≠w.1.size:=by omega
      have a9:=O (EQ W (EQ N V));clear N W V hdb L5;go_upto_region 9 with fail;let ⟨W,N,V⟩:=a9
      clear a9;obtain⟨F,a7⟩:=eX G.1.size;rw[a7]at V g6 ⊢;change ak (G.alloc (.cells #[I U,I pc] 32)) F 32 [I U,I pc]at V;generalize G.alloc (.cells #[I U,I pc] 32)=W8 at *;have b4:=O (EQ ((N.set1 0 (I U)).set1 1 (I pc)) ((W.setCell (p:=(ad w.1.size 0)) (FL _) (I U)).setCell (p:=(ad w.1.size 1)) (FL _) (I pc)));have z0:=N.cell 0;have z1:=N.cell 1;have g0:=N.frozen 0;have g1:=N.frozen 1;have y0:=V.cell 0;have y1:=V.cell 1;try simp only[FH,FE]at y0 y1
      clear N W V;go_wp2;exact dC b4.1 z z z z ⟨b4.2,z⟩
    .have j6:decide ((24:Int)< (dy:Int))=true:=by simp;omega
     have j7:(24:Int)< (dy:Int):=by omega
     have g:=c9.o;rw[aD (.inr (.inl (by omega)))]at g;subst g;obtain⟨-,H,J,-,-,A,C,⟨ab,a4,D,Q⟩,ae,a5,E,S⟩:=L4.s.parts;simp only[GE]at H J D E A C;clear A C D Q E S;have j:=L4.z;have K:=L4.b;have a2:=O (EQ ((j.set1 0 (I sl)).set1 1 (I sc)) ((K.setCell (p:=(ad w.1.size 0)) (FL _) (I sl)).setCell (p:=(ad w.1.size 1)) (FL _) (I sc)));have z0:=j.cell 0;have z1:=j.cell 1;have g0:=j.frozen 0;have g1:=j.frozen 1;clear j K L4;go_wp2;exact dC a2.1 z z z z ⟨a2.2,z⟩
   .have j4:decide ((24:Int)< (dx:Int))=true:=by simp;omega
    have j5:(24:Int)< (dx:Int):=by omega
    have g:=c8.o;rw[aD (.inr (.inr (by omega)))]at g;subst g;obtain⟨-,H,J,-,-,A,C,⟨ab,a4,D,Q⟩,ae,a5,E,S⟩:=L3.s.parts;simp only[GE]at H J D E A C;clear A C D Q E S;have j:=L3.z;have K:=L3.b;have a2:=O (EQ ((j.set1 0 (I sl)).set1 1 (I sc)) ((K.setCell (p:=(ad w.1.size 0)) (FL _) (I sl)).setCell (p:=(ad w.1.size 1)) (FL _) (I sc)));have z0:=j.cell 0;have z1:=j.cell 1;have g0:=j.frozen 0;have g1:=j.frozen 1;clear j K L3;go_wp2;exact dC a2.1 z z z z ⟨a2.2,z⟩
  .obtain rfl:i=Z:=by omega
   have i7:¬ (i:Int)< (i:Int):=by omega
   have g:=HR.o;rw[Gw (by rw[HN.o];exact FL _),St.Da]at g;subst g;have HZ:=O (EQ ((a1.set1 0 (I 0)).set1 1 (I 0)) ((b5.setCell (p:=(ad w.1.size 0)) (FL _) (I 0)).setCell (p:=(ad w.1.size 1)) (FL _) (I 0)));have z0:=a1.cell 0;have z1:=a1.cell 1;have g0:=a1.frozen 0;have g1:=a1.frozen 1;clear a1 b5 h1;go_wp2;exact dC HZ.1 z z z z ⟨HZ.2,z⟩
theorem rO{M:Nat}(g:M<=2000000):∀ (m d:Nat),d+m=25->mu M d:=by
 intro m;induction m with
 |zero=>
  intro d hd;exact kq M d g (by omega) (fun h=>absurd h (by omega))
 |succ m j=> intro d hd;exact kq M d g (by omega) (fun _=>j (d+1) (by omega))
theorem tG(s:ByteArray):bQ s=0∨bQ s=1∨bQ s=4∨bQ s=5∨bQ s=6∨bQ s=7∨bQ s=8∨bQ s=9∨bQ s=10∨bQ s=11∨bQ s=12∨bQ s=13∨bQ s=14∨bQ s=15:=by
 unfold bQ;rcases hf:(GU 16).find? fun k=>decide (fk.getD k aq≠aq)&&decide (fk.getD k aq=s) with _|j
 .exact .inl z
 .have g:=He hf;have w:j<16:=by simpa using Gl hf
  simp only[FG,decide_eq_true_eq]at g;have A:∀a,a<16->fk.getD a aq≠aq->a=0∨a=1∨a=4∨a=5∨a=6∨a=7∨a=8∨a=9∨a=10∨a=11∨a=12∨a=13∨a=14∨a=15:=by decide
  exact A j w g.1
theorem nP(T:List Wd)(i:Nat):cg T i=0∨cg T i=1∨cg T i=4∨cg T i=5∨cg T i=6∨cg T i=7∨cg T i=8∨cg T i=9∨cg T i=10∨cg T i=11∨cg T i=12∨cg T i=13∨cg T i=14∨cg T i=15:=by
 unfold cg;split
 .exact tG _
 .exact .inl z
theorem xt{T:List Wd}(h:cg T i≠0):i<T.length:=by
 unfold cg at h;split at h
 .rename_i g;exact cR T (i:=i) (by rw[g];decide)
 .exact absurd z h
theorem uV{sb f:Nat}(A:∀C,DB b S f C)(g:pS S.T (f+1) k≠none)(D:cB S.T k=(p0,p1))(h:Ds w b sb S W k false (aP (cg S.T k:Nat) (p0,p1) aq aq aT aT [] []))(E:l2.length=109:=by rfl):
  FR prog (Jp 4 (f135.body.getD .skip)) (Gb prog f135 (mY w b S k (pS S.T (f+1) k))) ⟨(Pt b::v0::Pt w.1.size::Pt sb::l2).toArray,[]⟩ W:=by
 revert l2;apply aN;iterate 109 intro _
 change FR _ _ _ _ _;rw[Ac,D]at g ⊢;have j:=xt (T:=S.T) (i:=k);rcases nP S.T k with e|e|e|e|e|e|e|e|e|e|e|e|e|e<;>rw[e]at h g j ⊢
 .rw[aD rfl]at g ⊢;exact Cx h
 .rw[am (by decide),am (by decide),am (by decide)]at g ⊢;exact uE (j (by decide)) h
 .rw[am (by decide),am (by decide),aD rfl]at g ⊢;exact CH (j (by decide)) A g h
 .rw[am (by decide),aD rfl]at g ⊢;exact Ai (j (by decide)) A g h
 .rw[am (by decide),am (by decide),am (by decide)]at g ⊢;exact BL (j (by decide)) h
 .rw[am (by decide),am (by decide),am (by decide)]at g ⊢;exact CI (j (by decide)) h
 .rw[am (by decide),am (by decide),am (by decide)]at g ⊢;exact Cs (j (by decide)) h
 .rw[am (by decide),am (by decide),am (by decide)]at g ⊢;exact CM (j (by decide)) h
 .rw[am (by decide),am (by decide),am (by decide)]at g ⊢;exact Cd (j (by decide)) h
 .rw[am (by decide),am (by decide),am (by decide)]at g ⊢;exact BU (j (by decide)) h
 .rw[am (by decide),am (by decide),am (by decide)]at g ⊢;exact Bf (j (by decide)) h
 .rw[am (by decide),am (by decide),am (by decide)]at g ⊢;exact BR (j (by decide)) h
 .rw[am (by decide),am (by decide),am (by decide)]at g ⊢;exact BW (j (by decide)) h
 .rw[am (by decide),am (by decide),am (by decide)]at g ⊢;exact Bj (j (by decide)) h
theorem bc:aq.toList=[]:=by unfold aq;rw[Iy]
theorem wS(h:i<16):uB[i]? =some (.string (fk.getD i aq)):=by
 have:∀i,i<16->uB[i]? =some (.string (fk.getD i aq)):=by intro i g;unfold uB;rw[HZ,FD];have j:=g;rw[FC j];rfl
 exact this i h
theorem xq{sb f:Nat}(hB:∀bd,DB b S f bd)(a5:pS S.T (f+1) k≠none)(hp:cB S.T k=(p0,p1))(A:ak W g 9 uB)(a3:g≠sb)
  (h:Ds w b sb S W k false (aP 0 (p0,p1) aq aq aT aT [] []))(hU:l2.length=108:=by rfl):
  FR prog (Jp 3 (f135.body.getD .skip)) (Gb prog f135 (mY w b S k (pS S.T (f+1) k))) ⟨(Pt b::v0::Pt w.1.size::Pt sb:: .slice (some (ad g 0)) 16 16::l2).toArray,[]⟩ W:=by
 revert l2;apply aN;iterate 108 intro _
 change FR _ _ _ _ _;conv in (Jp _ _)=>whnf
 refine wk fun a7 HK=>?_;have D:Hid (Ds w b sb S W k false (aP (if cg S.T k<1 then cg S.T k else 0:Nat) (p0,p1) aq aq aT aT [] [])/\ak W g 9 uB):=O (EQ (by rw[show (if cg S.T k<1 then cg S.T k else 0)=0 by split<;>omega];exact h) A)
 clear h A;go_wp2;go_loopg [5] 15 (fun x iv wr=>∃i:Nat,1<=i/\i<=16/\x=16-i/\iv=I i/\Hid (Ds w b sb S wr k false (aP (if cg S.T k<i then cg S.T k else 0:Nat) (p0,p1) aq aq aT aT [] [])/\ak wr g 9 uB));case atStart=>exact⟨1,rl,by decide,z,z,D⟩
 case round=>
  clear D;obtain⟨i,a6,hi,rfl,rfl,D⟩:=hrel;by_cases X:i<16
  .have a0:(i:Int)<16:=by omega
   have b4:(0:Int)<=(i:Int):=by omega
   let ⟨C,A⟩:=D
   have Q:=A.cell i;rw[wS X]at Q;have E:=yj C.r.k5 C.r.le i X a6;let ⟨s,U⟩:=eX (fk.getD i aq)
   rw[U]at Q E;rcases bq s aq with G|G
   .have Y:¬s.toList=[]:=fun e=>G (cG (e.trans bc.symm));have a9:s.toList.isEmpty=false:=by
     cases h:s.toList
     .exact absurd h Y
     .rfl
    have R:=il C.r s;obtain⟨m,Z⟩:=eX (cr S.T k s);rw[Z]at R E;rw[eP G,Gx]at E;have M:=O E;clear C A E Z;go_wp2_with fail;apply R.mono;rintro e H ⟨rfl,K⟩;let ⟨C,A⟩:=D
    have F:=C.call (bi (b:=b) K) (C.r.below K);have N:=A.below K;clear C A K R D Q;cases m
    .have J:Hid (Ds w b sb S H k false (aP (if cg S.T k<i+1 then cg S.T k else 0:Nat) (p0,p1) aq aq aT aT [] [])/\ak H g 9 uB):=O (EQ (by
      have a4:cg S.T k≠i:=by simpa using M.symm
      rw[show (if cg S.T k<i+1 then cg S.T k else 0)=(if cg S.T k<i then cg S.T k else 0) by split<;>split<;>omega];exact F) N)
     clear F N M;go_wp2;go_roundg (16- (i+1));case measure=>omega
     case rel=>exact⟨i+1,by omega,by omega,z,z,J⟩
    .have a1:cg S.T k=i:=by simpa using M.symm
     let ⟨a8,c0⟩:=F.s.cell (j:=0) (by decide)
     have f0:=F.s.frozen 0;have V:=F.kind (i:Int);have J:Hid (Ds w b sb S (H.setCell (ad sb 0) (I i)) k false (aP (if cg S.T k<i+1 then cg S.T k else 0:Nat) (p0,p1) aq aq aT aT [] [])/\ak (H.setCell (ad sb 0) (I i)) g 9 uB):=O (EQ (by rw[show (if cg S.T k<i+1 then cg S.T k else 0)=i by rw[aD (by omega),a1]];exact V) (N.of (FK H (ad sb 0) _ _ a3)))
     clear F N M V a1;go_wp2;go_roundg (16- (i+1));case measure=>omega
     case rel=>exact⟨i+1,by omega,by omega,z,z,J⟩
   .have Y:s.toList.isEmpty=true:=by rw[G,bc];rfl
    have J:Hid (Ds w b sb S wr k false (aP (if cg S.T k<i+1 then cg S.T k else 0:Nat) (p0,p1) aq aq aT aT [] [])/\ak wr g 9 uB):=O (EQ (by
     have a4:cg S.T k≠i:=by rw[G]at E;simpa using E.symm
     rw[show (if cg S.T k<i+1 then cg S.T k else 0)=(if cg S.T k<i then cg S.T k else 0) by split<;>split<;>omega];exact C) A)
    clear C A E D G U;go_wp2;go_roundg (16- (i+1));case measure=>omega
    case rel=>exact⟨i+1,by omega,by omega,z,z,J⟩
  .obtain rfl:i=16:=by omega
   have a2:Ds w b sb S wr k false (aP (cg S.T k:Nat) (p0,p1) aq aq aT aT [] []):=by
    have:=D.1;have a0:cg S.T k<16:=by rcases nP S.T k with e|e|e|e|e|e|e|e|e|e|e|e|e|e<;>omega
    rwa [aD a0]at this
   clear D;go_wp2;exact HK _ _ (uV hB a5 hp a2)
theorem pb{f:Nat}(hB:∀bd,DB b S f bd):DS b S (f+1):=by
 intro w k h a8;have b4:=h.lt;have F:=h.alloc (.cells fW 60);have M:ak (w.alloc (.cells fW 60)) w.1.size 60 fW.toList:=Df _ _;have N:Kp w (w.alloc (.cells fW 60)) b b:=(Kp.refl w b b).alloc _;have b5:(w.alloc (.cells fW 60)).1.size=w.1.size+1:=by simp
 have U:=nU F;obtain⟨⟨j,A⟩,X⟩:∃p,cB S.T k=p:=⟨_,z⟩;rw[X]at U;have HH:=O h;clear h;go_in;refine wk fun K0 a2=>?_;go_wp2;apply a2;clear a2 K0;refine wk fun K1 a1=>?_;have W:=O (EQ F (EQ M N));clear F M N;go_wp2_with fail;apply U.mono;rintro e E ⟨rfl,K⟩;let ⟨F,M,N⟩:=W
 have h1:=F.below K;have Z:=M.below K;have a0:=N.trans (bi (b:=b) K);have a4:=K.size;rw[b5]at a4;clear F M N K U b5 W;have J:=h1.alloc (.cells (da j A).toArray 60);have H:=Z.alloc (.cells (da j A).toArray 60);have G:=a0.alloc (.cells (da j A).toArray 60);have D:=Sb.fresh (w.1.size+1) E j A;have R:(E.alloc (.cells (da j A).toArray 60)).1.size=E.1.size+1:=by simp
 have Q:=O (EQ J (EQ H (EQ G (EQ D R))));clear J H G D h1 Z a0 R;go_wp2_with (with_reducible refine s0 60 ?_;refine bf ar z (.tmp 3) (.tmp 9) z E fW.toList (da j A) z z z (hC j A) _ z z z ?_);let ⟨J,H,G,D,R⟩:=Q
 let ⟨sb,a7⟩:=eX (E.1.size)
 rw[a7]at D R ⊢;generalize E.alloc (.cells (da j A).toArray 60)=Y at *;have C:Ds w b sb S Y k false (aP 0 (j,A) aq aq aT aT [] []):=⟨D,J,G,H,⟨_,_,HH⟩,by omega⟩;have Q:=O C;clear J H G D C;apply a1;clear a1 K1;refine wk fun K2 a6=>?_;go_wp2_with fail;apply (oO Y).mono;rintro e W3 ⟨g,rfl,hg,a9,V⟩;have C:=Q.o;have a3:=C.call (bi (b:=b) V) (C.r.below V);have a5:g≠sb:=by omega
 clear Q C V;go_wp2;exact a6 _ _ (xq hB a8 X a9 a5 a3)
theorem rH(b:Nat)(S:bp)(f:Nat):DS b S f:=by
 induction f using Nat.strongRecOn with
 |_ f C=>
  cases f with
  |zero=>
   intro w k h A;exact absurd (pH S.T k) A
  |succ f=>exact pb fun D=>jd fun g j=>C g (Nat.lt_succ_of_lt j)
theorem pt(b:Nat)(S:bp)(f:Nat)(bad:Bool):DB b S f bad:=jd fun g _=>rH b S g
def dy(k li co:Int)(s:ByteArray)(n:Int)(v:Fr):List Fr:=[.int .i64 k,.int .i64 li,.int .i64 co,.string s,.int .i64 n,v]
def uC:List Fr:=gw.map .string
def bT:Fr:= .slice none 0 0
def rT(w:Fk)(b:Nat)(S:bp)(k:Nat)(R:PR De)(e:Ending)(w':Fk):Prop:=Kp w w' b b/\∃ (cs:List Fr) (x:De) (j:Nat) (bad':Bool),e= .returned (.agg cs.toArray)/\fS (w.1.size<=·) w' cs x/\bj false k R x j bad'/\Dr w' b S j bad'
structure Dd (w:Fk) (b sb:Nat) (S:bp) (V:Fk) (j:Nat) (bd:Bool) (cs:List Fr):Prop where
 s:ak V sb 46 cs
 r:Dr V b S j bd
 p:Kp w V b b
 z:ak V w.1.size 46 (dy 0 0 0 ⟨#[]⟩ 0 bT)
 o:∃k0 b0,Dr w b S k0 b0
 B:w.1.size+1<=sb
section
variable {w V V':Fk} {b sb j j':Nat} {S:bp} {bd bd':Bool} {cs:List Fr}
theorem Dd.blt(h:Dd w b sb S V j bd cs):b<w.1.size:=by
 let ⟨A,b0,g⟩:=h.o
 exact g.lt
theorem Dd.call(h:Dd w b sb S V j bd cs)(g:Kp V V' b b)(A:Dr V' b S j' bd'):Dd w b sb S V' j' bd' cs:=by have:=h.blt;have:=h.B;exact⟨h.s.kp g (by omega) (by omega),A,h.p.trans g,h.z.kp g (by omega) (by omega),h.o,h.B⟩
theorem Dd.set(h:Dd w b sb S V j bd cs)(n:Nat)(u:Fr):Dd w b sb S (V.setCell (ad sb n) u) j bd (cs.set n u):=by
 let ⟨F,b0,C⟩:=h.o
 have G:=h.blt;have E:=h.B;have A:∀c,c≠sb->(V.setCell (ad sb n) u).1[c]? =V.1[c]? :=fun c D=>FK V (ad sb n) u c D;have g:=h.p.R (by omega) n u (r:=sb);exact⟨h.s.set1 n u,C.fin h.r g (A b (by omega)),g,h.z.of (A _ (by omega)),h.o,h.B⟩
theorem Dd.step(h:Dd w b sb S V j bd cs)(g:j<S.T.length):Dd w b sb S (V.setCell (ad b 1) (I ((j:Int)+1))) (j+1) bd cs:=
 h.call ((Kp.refl V b b).Dg 1 _) (h.r.step g)
theorem Dd.fail(h:Dd w b sb S V j bd cs):Dd w b sb S (V.setCell (ad b 2) (.bool true)) j true cs:=
 h.call ((Kp.refl V b b).Dg 2 _) h.r.fail
theorem Dd.told{R:PR De}{k n:Int}{l:List St}{cap:Nat}(h:Dd w b sb S V j bd (dy k p0 p1 s n (.slice a l.length cap)))(K:aF l.length cap)(M:aE (fun c=>w.1.size+1<=c) V a 0 l)
  (H:bj false g R (bZ k (p0,p1) s n l) j bd):
  ∃cs:List Fr,ak V sb 46 cs/\cs.length=6/\(∀v∈cs,v.oneCell'=true)/\ak (V.setCells w.1.size 0 cs) w.1.size 46 cs/\rT w b S g R (.returned (.agg cs.toArray)) (V.setCells w.1.size 0 cs):=by
 let ⟨U,b1,J⟩:=h.o
 have Q:=h.blt;let ⟨cs,C⟩:=eX (dy k p0 p1 s n (.slice a l.length cap))
 have F:=h.s;rw[C]at F;have G:cs.length=6:=by rw[<-C];rfl
 have E:=Kp.Dn (FL w.1.size) cs 0 h.p;refine⟨cs,F,G,?_,h.z.DK (by rw[G];rfl),E,cs,_,j,bd,rfl,?_,H,J.fin h.r E (au (by omega) cs 0 V)⟩
 .rw[<-C];unfold dy;intro v A;simp only[FQ,FO,or_false]at A;rcases A with rfl|rfl|rfl|rfl|rfl|rfl<;>rfl
 .refine⟨a,cap,by rw[<-C];rfl,K,?_⟩;refine aE.CQ (fun c D=> (by have:=D;omega:w.1.size<=c)) (aE.keep (fun c o v D A=>?_) M);rw[<-A];have N:=D;simp[FI,au (w:=V) (vs:=cs) (o:=0) (show c≠w.1.size by omega)]
theorem Dd.Ef{R:PR De}{k n:Int}(h:Dd w b sb S V j bd (dy k p0 p1 s n bT))(A:bj false g R (bZ k (p0,p1) s n []) j bd):
  ∃cs:List Fr,ak V sb 46 cs/\cs.length=6/\(∀v∈cs,v.oneCell'=true)/\ak (V.setCells w.1.size 0 cs) w.1.size 46 cs/\rT w b S g R (.returned (.agg cs.toArray)) (V.setCells w.1.size 0 cs):=
 Dd.told (l:=[]) h ⟨rl,by decide⟩ (by unfold aE;trivial) A
end
theorem bj.neg{T:List Wd}{bad b1 b2:Bool}{x y:Int}(A:b1=false->y= -x)(h:bj bad m (bG T m) x j b1)(w:bj b1 j (aU T aI j) () g b2):
  bj bad m (ap (bG T m) fun n q=>ap (aU T aI q) fun _ t=>some (.ok (bZ 1 (p0,p1) s (-n) [],t))) (bZ 1 (p0,p1) s y []) g b2:=by
 apply h.bind (R2:=fun n q=>ap (aU T aI q) fun _ t=>some (.ok (bZ 1 (p0,p1) s (-n) [],t)));cases b1
 .rw[A rfl];exact w.bind (bj.pure _ _ _)
 .obtain⟨rfl,rfl⟩:=w.bad;exact .inl ⟨z,z,z⟩
theorem qX{T:List Wd}{x:Int}(h:bG T m=some (.ok (x,j))):x=(T.getD m default).num:=by
 unfold bG at h;split at h
 .cases h;rfl
 .cases h
theorem Cv{sb:Nat}(h:Dd w b sb S W k false (dy 0 p0 p1 ⟨#[]⟩ 0 bT))(Y:l2.length=69:=by rfl):
  FR prog (Jp 4 (f56.body.getD .skip)) (Gb prog f56 (rT w b S k (some (.error k)))) ⟨(Pt b::v0::Pt w.1.size::Pt sb::l2).toArray,[]⟩ W:=by
 revert l2;apply aN;iterate 69 intro _
 change FR _ _ _ _ _;let ⟨R,C,H⟩:=ek
 conv in (Jp _ _)=>whnf
 have V:=h.r.mx;have U:=h.r.le;have c0:W.cell? (ad sb 0)=some (I 0):=h.s.cell 0;have Q:sb≠b:=by have:=h.B;have:=h.blt;omega
 have c2:=h.r.c2;have X:=h.r.hd.frozen 2;have F:=O h.fail;clear h;obtain j:=F.o;clear F;have A:bj false k (some (.error k):PR De) (bZ 0 (p0,p1) ⟨#[]⟩ 0 []) k true:= .inr (.inr ⟨z,z,z⟩);let ⟨cs,J,g,M,E,D⟩:=j.Ef A
 have N:=O j.z;have K:=O J;have G:=O (EQ E D);clear j A J E D;go_wp2_with (first| (with_reducible refine s0 46 ?_;refine ab aR z (.tmp 2) (.tmp 31) z w.1.size cs (dy 0 0 0 ⟨#[]⟩ 0 bT) z z N z g M ?_)| (with_reducible refine l0 46 ?_;refine ac C H aR z (.tmp 3) z sb cs z K g ?_));exact aC C H aR G.1 g z z z G.2
theorem CK{sb:Nat}(hk:k<S.T.length)(h:Dd w b sb S W k false (dy 3 p0 p1 ⟨#[]⟩ 0 bT))(hU:l2.length=69:=by rfl):
  FR prog (Jp 4 (f56.body.getD .skip)) (Gb prog f56 (rT w b S k (ap (aV S.T (k+1)) fun s j=>ap (aU S.T aI j) fun _ t=>some (.ok (bZ 3 (p0,p1) s 0 [],t))))) ⟨(Pt b::v0::Pt w.1.size::Pt sb::l2).toArray,[]⟩ W:=by
 revert l2;apply aN;iterate 69 intro _
 change FR _ _ _ _ _;let ⟨a7,J,Q⟩:=ek
 conv in (Jp _ _)=>whnf
 have a9:=h.r.mx;have a8:=h.r.le;have c0:W.cell? (ad sb 0)=some (I 3):=h.s.cell 0;have a6:sb≠b:=by have:=h.B;have:=h.blt;omega
 have a5:(k:Int)<1000000:=by omega
 have c1:=h.r.c1;have f1:=h.r.hd.frozen 1;have N:=h.step hk;have g:=O N;clear h N;go_wp2_with fail;clear c0 c1 f1;generalize W.setCell (ad b 1) (I ((k:Int)+1))=V1 at *;obtain D:=g.o;clear g;apply (bF D.r).mono;rintro e G ⟨a1,A,j2,b2,rfl,a4,b4⟩;have C:=D.call a1 b4;have c3:=C.s.cell 3;have f3:=C.s.frozen 3;have c0:G.cell? (ad sb 0)=some (I 3):=C.s.cell 0;have g:=O (show Dd w b sb S (G.setCell (ad sb 3) (.string A)) j2 b2 (dy 3 p0 p1 A 0 bT) from C.set 3 (.string A));unfold dy bT at c3;simp only[FH,FE]at c3;go_wp2_with fail;generalize G.setCell (ad sb 3) (.string A)=V2 at *;obtain H:=g.o;apply (aQ H.r aI).mono;rintro e W3 ⟨M,rfl,j3,b3,a3,X⟩;have g:=O (H.call M X);obtain F:=g.o
 have Y:bj false k (ap (aV S.T (k+1)) fun s j=>ap (aU S.T aI j) fun _ t=>some (.ok (bZ 3 (p0,p1) s 0 [],t))) (bZ 3 (p0,p1) A 0 []) j3 b3:=bj.from (k:=k+1) (a4.bind (a3.bind (bj.pure _ _ _)));let ⟨cs,hb,E,a2,R,Z⟩:=F.Ef Y
 have V:=O F.z;have U:=O hb;have K:=O (EQ R Z);go_wp2_with (first| (with_reducible refine s0 46 ?_;refine ab aR z (.tmp 2) (.tmp 72) z w.1.size cs (dy 0 0 0 ⟨#[]⟩ 0 bT) z z V z E a2 ?_)| (with_reducible refine l0 46 ?_;refine ac J Q aR z (.tmp 3) z sb cs z U E ?_));exact aC J Q aR K.1 E z z z K.2
theorem Cw{sb:Nat}(hk:k<S.T.length)(h:Dd w b sb S W k false (dy 4 p0 p1 ⟨#[]⟩ 0 bT))(hU:l2.length=69:=by rfl):
  FR prog (Jp 4 (f56.body.getD .skip)) (Gb prog f56 (rT w b S k (ap (aV S.T (k+1)) fun s j=>ap (aU S.T aI j) fun _ t=>some (.ok (bZ 4 (p0,p1) s 0 [],t))))) ⟨(Pt b::v0::Pt w.1.size::Pt sb::l2).toArray,[]⟩ W:=by
 revert l2;apply aN;iterate 69 intro _
 change FR _ _ _ _ _;let ⟨a7,J,Q⟩:=ek
 conv in (Jp _ _)=>whnf
 have a9:=h.r.mx;have a8:=h.r.le;have c0:W.cell? (ad sb 0)=some (I 4):=h.s.cell 0;have a6:sb≠b:=by have:=h.B;have:=h.blt;omega
 have a5:(k:Int)<1000000:=by omega
 have c1:=h.r.c1;have f1:=h.r.hd.frozen 1;have N:=h.step hk;have g:=O N;clear h N;go_wp2_with fail;clear c0 c1 f1;generalize W.setCell (ad b 1) (I ((k:Int)+1))=V1 at *;obtain D:=g.o;clear g;apply (bF D.r).mono;rintro e G ⟨a1,A,j2,b2,rfl,a4,b4⟩;have C:=D.call a1 b4;have c3:=C.s.cell 3;have f3:=C.s.frozen 3;have c0:G.cell? (ad sb 0)=some (I 4):=C.s.cell 0;have g:=O (show Dd w b sb S (G.setCell (ad sb 3) (.string A)) j2 b2 (dy 4 p0 p1 A 0 bT) from C.set 3 (.string A));unfold dy bT at c3;simp only[FH,FE]at c3;go_wp2_with fail;generalize G.setCell (ad sb 3) (.string A)=V2 at *;obtain H:=g.o;apply (aQ H.r aI).mono;rintro e W3 ⟨M,rfl,j3,b3,a3,X⟩;have g:=O (H.call M X);obtain F:=g.o
 have Y:bj false k (ap (aV S.T (k+1)) fun s j=>ap (aU S.T aI j) fun _ t=>some (.ok (bZ 4 (p0,p1) s 0 [],t))) (bZ 4 (p0,p1) A 0 []) j3 b3:=bj.from (k:=k+1) (a4.bind (a3.bind (bj.pure _ _ _)));let ⟨cs,hb,E,a2,R,Z⟩:=F.Ef Y
 have V:=O F.z;have U:=O hb;have K:=O (EQ R Z);go_wp2_with (first| (with_reducible refine s0 46 ?_;refine ab aR z (.tmp 2) (.tmp 72) z w.1.size cs (dy 0 0 0 ⟨#[]⟩ 0 bT) z z V z E a2 ?_)| (with_reducible refine l0 46 ?_;refine ac J Q aR z (.tmp 3) z sb cs z U E ?_));exact aC J Q aR K.1 E z z z K.2
theorem yt{sb:Nat}(hk:k<S.T.length)(h:Dd w b sb S W k false (dy 2 p0 p1 ⟨#[]⟩ 0 bT))(hU:l2.length=69:=by rfl):
  FR prog (Jp 4 (f56.body.getD .skip)) (Gb prog f56 (rT w b S k (ap (aV S.T (k+1)) fun s j=>ap (bG S.T j) fun n q=>ap (aU S.T aI q) fun _ t=>some (.ok (bZ 2 (p0,p1) s n [],t))))) ⟨(Pt b::v0::Pt w.1.size::Pt sb::l2).toArray,[]⟩ W:=by
 revert l2;apply aN;iterate 69 intro _
 change FR _ _ _ _ _;let ⟨a8,Q,V⟩:=ek
 conv in (Jp _ _)=>whnf
 have b5:=h.r.mx;have a9:=h.r.le;have c0:W.cell? (ad sb 0)=some (I 2):=h.s.cell 0;have a7:sb≠b:=by have:=h.B;have:=h.blt;omega
 have a6:(k:Int)<1000000:=by omega
 have c1:=h.r.c1;have f1:=h.r.hd.frozen 1;have Y:=h.step hk;have g:=O Y;clear h Y;go_wp2_with fail;clear c0 c1 f1;generalize W.setCell (ad b 1) (I ((k:Int)+1))=V1 at *;obtain F:=g.o;clear g;apply (bF F.r).mono;rintro e J ⟨a1,A,j2,b2,rfl,a4,r2⟩;have D:=F.call a1 r2;have c3:=D.s.cell 3;have f3:=D.s.frozen 3;have c0:J.cell? (ad sb 0)=some (I 2):=D.s.cell 0;have g:=O (show Dd w b sb S (J.setCell (ad sb 3) (.string A)) j2 b2 (dy 2 p0 p1 A 0 bT) from D.set 3 (.string A));unfold dy bT at c3;simp only[FH,FE]at c3;go_wp2_with fail;generalize J.setCell (ad sb 3) (.string A)=V2 at *;obtain M:=g.o;apply (gG M.r).mono;rintro e U ⟨R,C,j3,b3,rfl,a3,r3⟩;have E:=M.call R r3;have c4:=E.s.cell 4
 have f4:=E.s.frozen 4;unfold dy bT at c4;simp only[FH,FE]at c4;have g:=O (show Dd w b sb S (U.setCell (ad sb 4) (I C)) j3 b3 (dy 2 p0 p1 A C bT) from E.set 4 (I C));go_wp2_with fail;generalize U.setCell (ad sb 4) (I C)=V3 at *;obtain G:=g.o;apply (aQ G.r aI).mono;rintro e W4 ⟨b7,rfl,j4,b4,a5,r4⟩;have g:=O (G.call b7 r4);obtain N:=g.o;have b6:bj false k (ap (aV S.T (k+1)) fun s j=>ap (bG S.T j) fun n q=>ap (aU S.T aI q) fun _ t=>some (.ok (bZ 2 (p0,p1) s n [],t))) (bZ 2 (p0,p1) A C []) j4 b4:=bj.from (k:=k+1) (a4.bind (a3.bind (a5.bind (bj.pure _ _ _))));let ⟨cs,hb,H,a2,X,b8⟩:=N.Ef b6
 have HZ:=O N.z;have Z:=O hb;have K:=O (EQ X b8);go_wp2_with (first| (with_reducible refine s0 46 ?_;refine ab aR z (.tmp 2) (.tmp 72) z w.1.size cs (dy 0 0 0 ⟨#[]⟩ 0 bT) z z HZ z H a2 ?_)| (with_reducible refine l0 46 ?_;refine ac Q V aR z (.tmp 3) z sb cs z Z H ?_));exact aC Q V aR K.1 H z z z K.2
theorem CA{sb:Nat}(hk:k<S.T.length)(h:Dd w b sb S W k false (dy 5 p0 p1 ⟨#[]⟩ 0 bT))(hU:l2.length=69:=by rfl):
  FR prog (Jp 4 (f56.body.getD .skip)) (Gb prog f56 (rT w b S k (ap (aV S.T (k+1)) fun s j=>ap (bG S.T j) fun n q=>ap (aU S.T aI q) fun _ t=>some (.ok (bZ 5 (p0,p1) s n [],t))))) ⟨(Pt b::v0::Pt w.1.size::Pt sb::l2).toArray,[]⟩ W:=by
 revert l2;apply aN;iterate 69 intro _
 change FR _ _ _ _ _;let ⟨a8,Q,V⟩:=ek
 conv in (Jp _ _)=>whnf
 have b5:=h.r.mx;have a9:=h.r.le;have c0:W.cell? (ad sb 0)=some (I 5):=h.s.cell 0;have a7:sb≠b:=by have:=h.B;have:=h.blt;omega
 have a6:(k:Int)<1000000:=by omega
 have c1:=h.r.c1;have f1:=h.r.hd.frozen 1;have Y:=h.step hk;have g:=O Y;clear h Y;go_wp2_with fail;clear c0 c1 f1;generalize W.setCell (ad b 1) (I ((k:Int)+1))=V1 at *;obtain F:=g.o;clear g;apply (bF F.r).mono;rintro e J ⟨a1,A,j2,b2,rfl,a4,r2⟩;have D:=F.call a1 r2;have c3:=D.s.cell 3;have f3:=D.s.frozen 3;have c0:J.cell? (ad sb 0)=some (I 5):=D.s.cell 0;have g:=O (show Dd w b sb S (J.setCell (ad sb 3) (.string A)) j2 b2 (dy 5 p0 p1 A 0 bT) from D.set 3 (.string A));unfold dy bT at c3;simp only[FH,FE]at c3;go_wp2_with fail;generalize J.setCell (ad sb 3) (.string A)=V2 at *;obtain M:=g.o;apply (gG M.r).mono;rintro e U ⟨R,C,j3,b3,rfl,a3,r3⟩;have E:=M.call R r3;have c4:=E.s.cell 4
 have f4:=E.s.frozen 4;unfold dy bT at c4;simp only[FH,FE]at c4;have g:=O (show Dd w b sb S (U.setCell (ad sb 4) (I C)) j3 b3 (dy 5 p0 p1 A C bT) from E.set 4 (I C));go_wp2_with fail;generalize U.setCell (ad sb 4) (I C)=V3 at *;obtain G:=g.o;apply (aQ G.r aI).mono;rintro e W4 ⟨b7,rfl,j4,b4,a5,r4⟩;have g:=O (G.call b7 r4);obtain N:=g.o;have b6:bj false k (ap (aV S.T (k+1)) fun s j=>ap (bG S.T j) fun n q=>ap (aU S.T aI q) fun _ t=>some (.ok (bZ 5 (p0,p1) s n [],t))) (bZ 5 (p0,p1) A C []) j4 b4:=bj.from (k:=k+1) (a4.bind (a3.bind (a5.bind (bj.pure _ _ _))));let ⟨cs,hb,H,a2,X,b8⟩:=N.Ef b6
 have HZ:=O N.z;have Z:=O hb;have K:=O (EQ X b8);go_wp2_with (first| (with_reducible refine s0 46 ?_;refine ab aR z (.tmp 2) (.tmp 72) z w.1.size cs (dy 0 0 0 ⟨#[]⟩ 0 bT) z z HZ z H a2 ?_)| (with_reducible refine l0 46 ?_;refine ac Q V aR z (.tmp 3) z sb cs z Z H ?_));exact aC Q V aR K.1 H z z z K.2
theorem CC{sb:Nat}(hk:k<S.T.length)(h:Dd w b sb S W k false (dy 6 p0 p1 ⟨#[]⟩ 0 bT))(hU:l2.length=69:=by rfl):
  FR prog (Jp 4 (f56.body.getD .skip)) (Gb prog f56 (rT w b S k (ap (aV S.T (k+1)) fun s j=>ap (rb S.T j) fun bl q=>some (.ok (bZ 6 (p0,p1) s 0 bl,q))))) ⟨(Pt b::v0::Pt w.1.size::Pt sb::l2).toArray,[]⟩ W:=by
 revert l2;apply aN;iterate 69 intro _
 change FR _ _ _ _ _;let ⟨b9,a0,a6⟩:=ek
 conv in (Jp _ _)=>whnf
 have c9:=h.r.mx;have c8:=h.r.le;have c0:W.cell? (ad sb 0)=some (I 6):=h.s.cell 0;have b8:sb≠b:=by have:=h.B;have:=h.blt;omega
 have b7:(k:Int)<1000000:=by omega
 have c1:=h.r.c1;have f1:=h.r.hd.frozen 1;have N:=h.step hk;have g:=O N;clear h N;go_wp2_with fail;clear c0 c1 f1;generalize W.setCell (ad b 1) (I ((k:Int)+1))=V1 at *;obtain Y:=g.o;clear g;apply (bF Y.r).mono;rintro e K ⟨a8,A,Q,b2,rfl,b5,r2⟩;have F:=Y.call a8 r2;have c3:=F.s.cell 3;have f3:=F.s.frozen 3;have c0:K.cell? (ad sb 0)=some (I 6):=F.s.cell 0;have g:=O (show Dd w b sb S (K.setCell (ad sb 3) (.string A)) Q b2 (dy 6 p0 p1 A 0 bT) from F.set 3 (.string A));unfold dy bT at c3;simp only[FH,FE]at c3;go_wp2_with fail;generalize K.setCell (ad sb 3) (.string A)=V2 at *;obtain D:=g.o;have a4:b2=false->pB S.T (3*S.T.length+3) Q≠none:=fun _ hn=>by obtain⟨R,hR,-⟩:=le S.T D.r.le;have a7:pB S.T (3*S.T.length+3) Q=some R:=hR;rw[hn]at a7;cases a7
 apply (pt _ _ _ _ _ _ D.r a4).mono;rintro e J ⟨a1,E,G,C,j3,b3,rfl,a5,a2,b4,r3⟩;have H:=D.call a1 r3;have d0:aE (fun c=>w.1.size+1<=c) (J.setCell (ad sb 5) (.slice E C.length G)) E 0 C:=by have N:=D.B;have h2:=D.s.lt;refine aE.CQ (fun c X=> (by have:=X;omega:w.1.size+1<=c)) (aE.keep (fun c o v X hv=>?_) a2);have b6:=X;rw[<-hv];simp[FI,FK J (ad sb 5) (.slice E C.length G) c (show c≠sb by omega)]
 have c5:=H.s.cell 5;have f5:=H.s.frozen 5;unfold dy bT at c5;simp only[FH,FE]at c5;have g:=O (show Dd w b sb S (J.setCell (ad sb 5) (.slice E C.length G)) j3 b3 (dy 6 p0 p1 A 0 (.slice E C.length G)) from H.set 5 _);have V:=O (EQ a5 d0);obtain Z:=g.o;have a3:bj false k (ap (aV S.T (k+1)) fun s j=>ap (rb S.T j) fun bl q=>some (.ok (bZ 6 (p0,p1) s 0 bl,q))) (bZ 6 (p0,p1) A 0 C) j3 b3:=bj.from (k:=k+1) (b5.bind (b4.bind (bj.pure _ _ _)));let ⟨cs,hb,M,a9,hz,hD⟩:=Z.told V.1 V.2 a3
 have HZ:=O Z.z;have HB:=O hb;have U:=O (EQ hz hD);go_wp2_with (first| (with_reducible refine s0 46 ?_;refine ab aR z (.tmp 2) (.tmp 69) z w.1.size cs (dy 0 0 0 ⟨#[]⟩ 0 bT) z z HZ z M a9 ?_)| (with_reducible refine l0 46 ?_;refine ac a0 a6 aR z (.tmp 3) z sb cs z HB M ?_));exact aC a0 a6 aR U.1 M z z z U.2
theorem yL{sb:Nat}(hk:k<S.T.length)(hN:∀ (x:Int) {i:Nat},x=(S.T.getD i default).num->0<=x/\x<=2147483647)(h:Dd w b sb S W k false (dy 1 p0 p1 ⟨#[]⟩ 0 bT))(hU:l2.length=69:=by rfl):
  FR prog (Jp 4 (f56.body.getD .skip)) (Gb prog f56 (rT w b S k (ap (aV S.T (k+1)) fun s j=>ap (aU S.T iE j) fun _ m=>if cr S.T m eg=true then ap (bG S.T (m+1)) fun n q=>ap (aU S.T aI q) fun _ t=>some (.ok (bZ 1 (p0,p1) s (-n) [],t)) else ap (bG S.T m) fun n q=>ap (aU S.T aI q) fun _ t=>some (.ok (bZ 1 (p0,p1) s n [],t))))) ⟨(Pt b::v0::Pt w.1.size::Pt sb::l2).toArray,[]⟩ W:=by
 revert l2;apply aN;iterate 69 intro _
 change FR _ _ _ _ _;let ⟨d0,Q,U⟩:=ek
 conv in (Jp _ _)=>whnf
 have d2:=h.r.mx;have d1:=h.r.le;have c0:W.cell? (ad sb 0)=some (I 1):=h.s.cell 0;have c9:sb≠b:=by have:=h.B;have:=h.blt;omega
 have c8:(k:Int)<1000000:=by omega
 have c1:=h.r.c1;have f1:=h.r.hd.frozen 1;have h1:=h.step hk;have g:=O h1;clear h h1;go_wp2_with fail;clear c0 c1 f1;generalize W.setCell (ad b 1) (I ((k:Int)+1))=V1 at *;obtain a3:=g.o;clear g;apply (bF a3.r).mono;rintro e W2 ⟨b9,D,j2,b2,rfl,b8,r2⟩;have N:=a3.call b9 r2;have c3:=N.s.cell 3;have f3:=N.s.frozen 3;have c0:W2.cell? (ad sb 0)=some (I 1):=N.s.cell 0;have g:=O (show Dd w b sb S (W2.setCell (ad sb 3) (.string D)) j2 b2 (dy 1 p0 p1 D 0 bT) from N.set 3 (.string D));unfold dy bT at c3;simp only[FH,FE]at c3;go_wp2_with fail;generalize W2.setCell (ad sb 3) (.string D)=V2 at *;obtain a8:=g.o;apply (aQ a8.r iE).mono;rintro e W3 ⟨a9,rfl,j3,b3,b7,r3⟩;have g:=O (a8.call a9 r3)
 go_wp2_with fail;obtain a5:=g.o;apply (dq a5.r eg).mono;rintro e W4 ⟨b4,rfl,r4⟩;let ⟨m,HM⟩:=eX ((!b3&&cr S.T j3 eg))
 rw[HM]at r4 ⊢;have K:=a5.call b4 r4;cases m
 .simp only[FN,if_false]at K;have g:=O K;go_wp2_with fail;obtain H:=g.o;apply (gG H.r).mono;rintro e X ⟨d5,A,j5,Y,rfl,V,r5⟩;have C:=H.call d5 r5;have c4:=C.s.cell 4;have f4:=C.s.frozen 4;unfold dy bT at c4;simp only[FH,FE]at c4;have g:=O (show Dd w b sb S (X.setCell (ad sb 4) (I A)) j5 Y (dy 1 p0 p1 D A bT) from C.set 4 (I A));go_wp2_with fail;generalize X.setCell (ad sb 4) (I A)=V5 at *;obtain E:=g.o;apply (aQ E.r aI).mono;rintro e W6 ⟨a0,rfl,j6,b6,a6,r6⟩;have g:=O (E.call a0 r6);obtain F:=g.o
  have d3:bj false k (ap (aV S.T (k+1)) fun s j=>ap (aU S.T iE j) fun _ m=>if cr S.T m eg=true then ap (bG S.T (m+1)) fun n q=>ap (aU S.T aI q) fun _ t=>some (.ok (bZ 1 (p0,p1) s (-n) [],t)) else ap (bG S.T m) fun n q=>ap (aU S.T aI q) fun _ t=>some (.ok (bZ 1 (p0,p1) s n [],t))) (bZ 1 (p0,p1) D A []) j6 b6:=bj.from (k:=k+1) (b8.bind (b7.bind (bj.ET HM (V.bind (a6.bind (bj.pure _ _ _))))));let ⟨cs,M,G,a7,R,d4⟩:=F.Ef d3
  have HZ:=O F.z;have Z:=O M;have J:=O (EQ R d4);go_wp2_with (first| (with_reducible refine s0 46 ?_;refine ab aR z (.tmp 2) (.tmp 72) z w.1.size cs (dy 0 0 0 ⟨#[]⟩ 0 bT) z z HZ z G a7 ?_)| (with_reducible refine l0 46 ?_;refine ac Q U aR z (.tmp 3) z sb cs z Z G ?_));exact aC Q U aR J.1 G z z z J.2
 .simp only[if_true]at K;have g:=O K;go_wp2_with fail;obtain H:=g.o;apply (gG H.r).mono;rintro e X ⟨d5,A,j5,Y,rfl,V,r5⟩;have C:=H.call d5 r5;have c4:=C.s.cell 4;have f4:=C.s.frozen 4;unfold dy bT at c4;simp only[FH,FE]at c4;let ⟨y,hy⟩:=eX (wrap64 (-A))
  have HY:Hid (Y=false->y= -A):=O (fun e=>by subst e;have hx:=qX V.Eo.2;have M:=hN _ hx;rw[<-hy];unfold wrap64;omega)
  have g:=O (show Dd w b sb S ((X.setCell (ad sb 4) (I A)).setCell (ad sb 4) (I y)) j5 Y (dy 1 p0 p1 D y bT) from(C.set 4 (I A)).set 4 (I y));go_wp2_with fail;generalize (X.setCell (ad sb 4) (I A)).setCell (ad sb 4) (I y)=V5 at *;obtain E:=g.o;apply (aQ E.r aI).mono;rintro e W6 ⟨a0,rfl,j6,b6,a6,r6⟩;have g:=O (E.call a0 r6);obtain F:=g.o
  have d3:bj false k (ap (aV S.T (k+1)) fun s j=>ap (aU S.T iE j) fun _ m=>if cr S.T m eg=true then ap (bG S.T (m+1)) fun n q=>ap (aU S.T aI q) fun _ t=>some (.ok (bZ 1 (p0,p1) s (-n) [],t)) else ap (bG S.T m) fun n q=>ap (aU S.T aI q) fun _ t=>some (.ok (bZ 1 (p0,p1) s n [],t))) (bZ 1 (p0,p1) D y []) j6 b6:=bj.from (k:=k+1) (b8.bind (b7.bind (bj.ES HM (bj.neg HY V a6))));let ⟨cs,M,G,a7,R,d4⟩:=F.Ef d3
  have HZ:=O F.z;have Z:=O M;have J:=O (EQ R d4);go_wp2_with (first| (with_reducible refine s0 46 ?_;refine ab aR z (.tmp 2) (.tmp 72) z w.1.size cs (dy 0 0 0 ⟨#[]⟩ 0 bT) z z HZ z G a7 ?_)| (with_reducible refine l0 46 ?_;refine ac Q U aR z (.tmp 3) z sb cs z Z G ?_));exact aC Q U aR J.1 G z z z J.2
theorem nh(T:List Wd)(i:Nat):ca T i=0∨ca T i=1∨ca T i=2∨ca T i=3∨ca T i=4∨ca T i=5∨ca T i=6:=by
 unfold ca;rcases hf:(GU 7).find? fun k=>decide (k≠0)&&cr T i (gw.getD k aq) with _|j
 .exact .inl z
 .have g:j<7:=by simpa using Gl hf
  show j=0∨j=1∨j=2∨j=3∨j=4∨j=5∨j=6;omega
theorem wl{T:List Wd}(h:cr T i s=true)(g:cr T i t=true):s=t:=by unfold cr at h g;simp only[FG,decide_eq_true_eq]at h g;exact h.2.2.symm.trans g.2.2
theorem zw(T:List Wd)(i k:Nat)(w:k<7)(E:1<=k):cr T i (gw.getD k aq)=decide (ca T i=k):=by
 have D:∀a,a<7->∀c,c<7->a≠0->gw.getD a aq=gw.getD c aq->a=c:=by decide
 by_cases h:cr T i (gw.getD k aq)=true
 .rw[h];symm;rw[decide_eq_true_iff];unfold ca;rcases hf:(GU 7).find? fun k=>decide (k≠0)&&cr T i (gw.getD k aq) with _|j
  .have:=List.find?_eq_none.1 hf k (List.mem_range.2 w);rw[h,eP (show k≠0 by omega)]at this;exact absurd z this
  .have g:=He hf;have A:=Gl hf;simp only[FG,decide_eq_true_eq]at g;exact D j (by simpa using A) k w g.1 (wl g.2 h)
 .rw[Bool.not_eq_true]at h;rw[h];symm;rw[decide_eq_false_iff_not];intro e;unfold ca at e;rcases hf:(GU 7).find? fun k=>decide (k≠0)&&cr T i (gw.getD k aq) with _|j
  .rw[hf]at e;have:(0:Nat)=k:=e;omega
  .rw[hf]at e;have g:=He hf;simp only[FG,decide_eq_true_eq]at g;have C:j=k:=e;subst C;rw[g.2]at h;cases h
theorem vb(h:i<7):uC[i]? =some (.string (gw.getD i aq)):=by unfold uC;rw[HZ,FD];have g:=h;rw[FC g];rfl
theorem uS{sb:Nat}(j:∀ (x:Int) {i:Nat},x=(S.T.getD i default).num->0<=x/\x<=2147483647)(A:cB S.T k=(p0,p1))(h:Dd w b sb S W k false (dy (ca S.T k:Nat) p0 p1 ⟨#[]⟩ 0 bT))(C:l2.length=69:=by rfl):
  FR prog (Jp 4 (f56.body.getD .skip)) (Gb prog f56 (rT w b S k (pD S.T k))) ⟨(Pt b::v0::Pt w.1.size::Pt sb::l2).toArray,[]⟩ W:=by
 revert l2;apply aN;iterate 69 intro _
 change FR _ _ _ _ _;have g:=eJ S.T (i:=k);unfold pD;rw[A];rcases nh S.T k with e|e|e|e|e|e|e<;>rw[e]at h g ⊢
 .rw[aD rfl];exact Cv h
 .simp only[am (show ¬ (1=0) by decide),if_true];exact yL (g (by decide)) j h
 .simp only[am (show ¬ (2=0) by decide),am (show ¬ (2=1) by decide)];exact yt (g (by decide)) h
 .simp only[am (show ¬ (3=0) by decide),am (show ¬ (3=1) by decide),am (show ¬ (3=2∨3=5) by decide),am (show ¬ (3=6) by decide)];exact CK (g (by decide)) h
 .simp only[am (show ¬ (4=0) by decide),am (show ¬ (4=1) by decide),am (show ¬ (4=2∨4=5) by decide),am (show ¬ (4=6) by decide)];exact Cw (g (by decide)) h
 .simp only[am (show ¬ (5=0) by decide),am (show ¬ (5=1) by decide)];exact CA (g (by decide)) h
 .simp only[am (show ¬ (6=0) by decide),am (show ¬ (6=1) by decide),am (show ¬ (6=2∨6=5) by decide),if_true];exact CC (g (by decide)) h
theorem wC{sb:Nat}(hN:∀ (x:Int) {i:Nat},x=(S.T.getD i default).num->0<=x/\x<=2147483647)(hp:cB S.T k=(p1,p0))(j:ak W g 9 uC)(a0:g≠sb)
  (h:Dd w b sb S W k false (dy 0 p1 p0 ⟨#[]⟩ 0 bT))(hU:l2.length=68:=by rfl):
  FR prog (Jp 3 (f56.body.getD .skip)) (Gb prog f56 (rT w b S k (pD S.T k))) ⟨(Pt b::v0::Pt w.1.size::Pt sb:: .slice (some (ad g 0)) 7 7::l2).toArray,[]⟩ W:=by
 revert l2;apply aN;iterate 68 intro _
 change FR _ _ _ _ _;conv in (Jp _ _)=>whnf
 refine wk fun a1 Y=>?_;have A:Hid (Dd w b sb S W k false (dy (if ca S.T k<1 then ca S.T k else 0:Nat) p1 p0 ⟨#[]⟩ 0 bT)/\ak W g 9 uC):=O (EQ (by rw[show (if ca S.T k<1 then ca S.T k else 0)=0 by split<;>omega];exact h) j)
 go_wp2;go_loopg [5] 6 (fun x iv wr=>∃i:Nat,1<=i/\i<=7/\x=7-i/\iv=I i/\Hid (Dd w b sb S wr k false (dy (if ca S.T k<i then ca S.T k else 0:Nat) p1 p0 ⟨#[]⟩ 0 bT)/\ak wr g 9 uC))
 .exact⟨1,FL _,by decide,z,z,A⟩
 .obtain⟨i,Z,hi,rfl,rfl,A⟩:=hrel;by_cases R:i<7
  .have U:(i:Int)<7:=by omega
   have a3:(0:Int)<=(i:Int):=by omega
   let ⟨C,j⟩:=A
   have M:=j.cell i;rw[vb R]at M;have J:=zw S.T k i R Z;obtain⟨s,hs⟩:=eX (gw.getD i aq);rw[hs]at M J;have N:=il C.r s;obtain⟨m,V⟩:=eX (cr S.T k s);rw[V]at N J;have F:=O J;clear C j J V;go_wp2_with fail;apply N.mono;rintro e E ⟨rfl,G⟩;let ⟨C,j⟩:=A
   have D:=C.call (bi (b:=b) G) (C.r.below G);have H:=j.below G;clear C j G N A M;cases m
   .have K:Hid (Dd w b sb S E k false (dy (if ca S.T k<i+1 then ca S.T k else 0:Nat) p1 p0 ⟨#[]⟩ 0 bT)/\ak E g 9 uC):=O (EQ (by
     have a2:ca S.T k≠i:=by simpa using F.symm
     rw[show (if ca S.T k<i+1 then ca S.T k else 0)=(if ca S.T k<i then ca S.T k else 0) by split<;>split<;>omega];exact D) H)
    clear D H F;go_wp2;go_roundg (7- (i+1));case measure=>omega
    case rel=>exact⟨i+1,by omega,by omega,z,z,K⟩
   .have Q:ca S.T k=i:=by simpa using F.symm
    have c0:=D.s.cell 0;unfold dy bT at c0;simp only[FE]at c0;have f0:=D.s.frozen 0;have X:=D.set 0 (I i);have K:Hid (Dd w b sb S (E.setCell (ad sb 0) (I i)) k false (dy (if ca S.T k<i+1 then ca S.T k else 0:Nat) p1 p0 ⟨#[]⟩ 0 bT)/\ak (E.setCell (ad sb 0) (I i)) g 9 uC):=O (EQ (by rw[show (if ca S.T k<i+1 then ca S.T k else 0)=i by rw[aD (by omega),Q]];exact X) (H.of (FK E (ad sb 0) _ _ a0)))
    clear D H F X Q;go_wp2;go_roundg (7- (i+1));case measure=>omega
    case rel=>exact⟨i+1,by omega,by omega,z,z,K⟩
  .obtain rfl:i=7:=by omega
   have h7:Dd w b sb S wr k false (dy (ca S.T k:Nat) p1 p0 ⟨#[]⟩ 0 bT):=by
    have:=A.1;have U:ca S.T k<7:=by rcases nh S.T k with e|e|e|e|e|e|e<;>omega
    rwa [aD U]at this
   go_wp2;exact Y _ _ (uS hN hp h7)
theorem qA(hN:∀ (x:Int) {i:Nat},x=(S.T.getD i default).num->0<=x/\x<=2147483647)(h:Dr w b S k false):
  Jq prog 56 #[Pt b] w (rT w b S k (pD S.T k)):=by
 have b4:=h.lt;let ⟨w0,J⟩:=eX (w.alloc (.cells (dy 0 0 0 ⟨#[]⟩ 0 bT).toArray 46))
 have E:Dr w0 b S k false:=by rw[<-J];exact h.alloc _
 have G:ak w0 w.1.size 46 (dy 0 0 0 ⟨#[]⟩ 0 bT):=by rw[<-J];exact Df _ _
 have F:Kp w w0 b b:=by rw[<-J];exact(Kp.refl w b b).alloc _
 have a0:w0.1.size=w.1.size+1:=by rw[<-J];simp
 have N:=nU E;obtain⟨⟨j,A⟩,X⟩:∃p,cB S.T k=p:=⟨_,z⟩;rw[X]at N;have Y:=O h;go_in;refine ws ?_;have g:=J;unfold dy bT at g;rw[g];refine wk fun b5 a2=>?_;have W:=O (EQ E (EQ G F));go_wp2_with fail;apply N.mono;rintro e D ⟨rfl,K⟩;let ⟨E,G,F⟩:=W
 have h1:=E.below K;have a8:=G.below K;have a9:=F.trans (bi (b:=b) K);have a4:=K.size;rw[a0]at a4;go_wp2;have b7:=h1.alloc (.cells (dy 0 j A ⟨#[]⟩ 0 bT).toArray 46);have b6:=a8.alloc (.cells (dy 0 j A ⟨#[]⟩ 0 bT).toArray 46);have Z:=a9.alloc (.cells (dy 0 j A ⟨#[]⟩ 0 bT).toArray 46);have M:=ak.new D 46 (dy 0 j A ⟨#[]⟩ 0 bT);have Q:(D.alloc (.cells (dy 0 j A ⟨#[]⟩ 0 bT).toArray 46)).1.size=D.1.size+1:=by simp
 let ⟨sb,a5⟩:=eX (D.1.size)
 rw[a5]at M Q ⊢;change b5 _ (D.alloc (.cells (dy 0 j A ⟨#[]⟩ 0 bT).toArray 46));generalize D.alloc (.cells (dy 0 j A ⟨#[]⟩ 0 bT).toArray 46)=C at *;have V:Dd w b sb S C k false (dy 0 j A ⟨#[]⟩ 0 bT):=⟨M,b7,Z,b6,⟨_,_,Y⟩,by omega⟩;apply a2;refine wk fun K2 a3=>?_;go_wp2;have H:=V;have U:FM C.1.size C (C.alloc (.cells uC.toArray 9)):=(FB _ C).alloc rl _;have R:=ak.new C 9 uC;have a7:=H.call (bi (b:=b) U) (H.r.below U);rw[Q]at R;have a6:sb+1≠sb:=by omega
 apply a3;change FR _ _ _ _ (C.alloc (.cells uC.toArray 9));exact wC hN X R a6 a7
theorem bX.below{w':Fk}{cs:List Fr}{s:St}(h:bX (fun _=>True) w cs s)(j:bL w w'):bX (fun _=>True) w' cs s:=
 bX.keep (fun b o v _ g=>by rw[<-g];simp[FI,j.block b (FF w _ g)]) h
theorem cQ.below{w':Fk}{l:List De}(h:cQ (fun _=>True) w a l)(j:bL w w'):cQ (fun _=>True) w' a l:=
 h.keep (fun b o v _ g=>by rw[<-g];simp[FI,j.block b (FF w _ g)])
theorem eA(s:ByteArray):s.toList.isEmpty=decide (s=aq):=by
 by_cases h:s=aq
 .subst h;rw[bc];rfl
 .rw[dv h];cases g:s.toList
  .exact absurd (cG (g.trans bc.symm)) h
  .rfl
theorem aZ(s:ByteArray)(nd:Bool)(w:Fk)(A:s.size<=9223372036854775807):Jq prog 169 #[.string s,.bool nd] w fun e w'=>e= .returned (.bool (if nd=true then ah s else decide (s=aq)))/\bL w w':=by
 cases nd
 .rw[am FY,<-eA];go_in;go_wp2;go_ret;exact⟨z,FB _ w⟩
 .rw[aD rfl];have j:=eq s w A;go_in;go_wp2_with fail;apply j.mono;rintro e w1 ⟨rfl,g⟩;go_wp2;go_ret;exact⟨z,g⟩
theorem dY.below{w':Fk}{x:Ex}(h:dY w b g x)(A:bL w w'):dY w' b g x:=by
 let ⟨cs,D,C⟩:=h
 exact⟨cs,fun j v E=> (by have:=D j v E;rw[<-this];simp[FI,A.block b (FF w _ this)]),C.below A⟩
theorem dY.all{k n:Int}{sl:Int}{lo:Bool}{args:List Ex}(h:dY w b j (.mk k n s sl lo p0 args)):
  w.cell? (ad b j)=some (I k)/\w.cell? (ad b (j+1))=some (I n)/\w.cell? (ad b (j+2))=some (.string s)/\w.cell? (ad b (j+5))=some (I p0):=by
 let ⟨cs,g,A⟩:=h
 unfold ExL at A;obtain⟨a,cap,rfl,-⟩:=A;exact⟨g 0 _ z,g 1 _ z,g 2 _ z,g 5 _ z⟩
def mT(d:Nat):Prop:=∀ (x:Ex) (b off:Nat) (w:Fk),dY w b off x->x.nb->Jq prog 187 #[.pointer (some ⟨b,off,none⟩),.int .i64 (d:Int)] w fun e w'=>e= .returned (.bool (de ah x d))/\FM w.1.size w w'
theorem hb{ar:Nat}{k n:Int}{sl:Int}{lo:Bool}{args:List Ex}(hd:d<=24)(b5:ar<=2)(ih:mT d)(N:bL w W)(h:dY W b g (.mk k n s sl lo p0 args))(Z:Ex.DJ args)(hU:l2.length=113:=by rfl):
  FR prog (Jp 5 (f187.body.getD .skip)) (Gb prog f187 (fun e w'=>e= .returned (.bool (decide (args.length=ar)&&di ah args d))/\bL w w')) ⟨(.pointer (some (ad b g))::I ((d+1:Nat):Int)::v0::v1::v2::I ar::l2).toArray,[]⟩ W:=by
 revert l2;apply aN;iterate 113 intro _
 change FR _ _ _ _ _;obtain⟨a,cap,c6,a7,-⟩:=h.args;let ⟨A,X⟩:=eX (args.length)
 let ⟨R,C⟩:=eX (di ah (args.drop 0) d)
 rw[show di ah args d=R from C];rw[X]at c6 a7 ⊢;have M:=O X;have E:=O C;have D:=O (EQ N h);have HB:=O Z;clear X C h Z;rcases bq A ar with U|U
 .rw[dv U,HD];conv in (Jp _ _)=>whnf
  have b4:¬ (A:Int)=(ar:Int):=by omega
  go_wp2;go_ret;exact⟨z,N⟩
 subst U;rw[eP rfl,Gx];conv in (Jp _ _)=>whnf
 clear N;go_wp2;clear c6;go_loopg [105] A (fun x iv wr=>∃i:Nat,i<=A/\x=A-i/\iv=I i/\Hid (bL w wr/\dY wr b g (.mk k n s sl lo p0 args))/\Hid (di ah (args.drop i) d=R));case atStart=>exact⟨0,FX _,z,z,D,E⟩
 case round=>
  clear D E;obtain⟨i,hi,rfl,rfl,D,E⟩:=hrel;let ⟨F,G⟩:=D
  let ⟨a1,b8,c6,a8,H⟩:=G.args
  rw[M.o]at c6 a8 H;by_cases V:i<A
  .have a6:(i:Int)< (A:Int):=by omega
   have b9:(0:Int)<=(i:Int):=by omega
   have b6:(i:Int)+1<=9223372036854775807:=by omega
   obtain⟨b2,a4,rfl,Y⟩:=H i V;have a0:=Ex.DM HB (j:=i) (by rw[M.o];exact V);have K:=ih (args.getD i aT) b2 (a4+i*7) wr Y a0;have b7:(((d+1:Nat):Int)-1)=(d:Int):=by omega
   have C:=E.o;rw[lw (by rw[M.o];exact V)]at C;let ⟨m,hm⟩:=eX (de ah (args.getD i aT) d)
   rw[hm]at K C;have Q:=O C;clear Y a0 H hm C E;go_wp2_with fail;apply K.mono;rintro e w2 ⟨rfl,J⟩;have S:=F.trans (J.mono F.size);cases m
   .have a3:R=false:=Q.symm;subst a3;clear D K c6 G F J;go_wp2;go_ret;exact⟨z,S⟩
   .have a9:Hid (di ah (args.drop (i+1)) d=R):=O Q;have a2:=O (EQ S (G.below J));clear D K c6 G F J S Q;go_wp2;go_roundg (A- (i+1));case measure=>omega
    case rel=>exact⟨i+1,by omega,z,z,a2,a9⟩
  .obtain rfl:i=A:=by omega
   have a6:¬ (i:Int)< (i:Int):=by omega
   have a5:R=true:=by rw[<-E.o,Gw (by rw[M.o];exact FL _)];rfl
   subst a5;clear G D H c6;go_wp2;go_ret;exact⟨z,F⟩
theorem Bk{n:Int}{sl:Int}{lo:Bool}{args:List Ex}(hd:d<=24)(X:mT d)(h:dY w b j (.mk 1 n s sl lo p0 args))(S:s.size<=9223372036854775807)(Y:Ex.DJ args):
  Jq prog 187 #[.pointer (some (ad b j)),I ((d+1:Nat):Int)] w fun e w'=>e= .returned (.bool (de ah (.mk 1 n s sl lo p0 args) (d+1)))/\bL w w':=by
 let ⟨R,H⟩:=eX (de ah (.mk 1 n s sl lo p0 args) (d+1))
 rw[H];rw[db]at H;have a2:¬ ((d+1:Nat):Int)<1:=by omega
 let ⟨c0,c1,c2,c5⟩:=h.all
 rcases bq p0 0 with N|N
 .have K:R=false:=by rw[<-H];simp[N]
  have Z:(p0 !=0)=true:=by simpa using N
  subst K;go_in;go_wp2;go_ret;exact⟨z,FB _ w⟩
 subst N;let ⟨mn,J⟩:=eX (decide (s=aq))
 have Q:=O J;cases mn
 .have K:R=false:=by rw[<-H];have W:=of_decide_eq_false J;simp[W]
  subst K;clear J;have F:=aZ s false w.drew S;have C:bL w w.drew:=(FB _ w).drew;go_in;refine wk fun A g=>?_;go_wp2;apply g;clear g A;refine wk fun A g=>?_;go_wp2;apply g;clear g A;refine wk fun A g=>?_;go_wp2;apply ax 16 (by kernel_rfl) (by kernel_rfl);simp only[Gu,GL,Gv,GD];repeat (go_big_quiet_step (fail))
  apply Hi;go_wp2_with fail;apply F.mono;rintro e w1 ⟨rfl,D⟩;have E:=C.trans (D.mono C.size);have G:=h.below E;clear F C D c0 c1 c2 c5;simp only[FN,if_false,Q.o];go_wp2;go_ret;exact⟨z,E⟩
 by_cases a0:n<0
 .have K:R=false:=by
   rw[<-H];have M:bs 1 n 0=false:=by unfold bs;rw[aD rfl];rw[dv (by omega),HD]
   simp[M]
  subst K;clear J;have F:=aZ s false w.drew S;have C:bL w w.drew:=(FB _ w).drew;go_in;refine wk fun A g=>?_;go_wp2;apply g;clear g A;refine wk fun A g=>?_;go_wp2;apply g;clear g A;refine wk fun A g=>?_;go_wp2;apply ax 16 (by kernel_rfl) (by kernel_rfl);simp only[Gu,GL,Gv,GD];repeat (go_big_quiet_step (fail))
  apply Hi;go_wp2_with fail;apply F.mono;rintro e w1 ⟨rfl,D⟩;have E:=C.trans (D.mono C.size);have G:=h.below E;clear F C D c0 c1 c2 c5;simp only[FN,if_false,Q.o];go_wp2;apply g;clear g A;refine wk fun A g=>?_;go_wp2;apply g;clear g A;let ⟨c0,c1,c2,c5⟩:=G.all
  clear h G;go_wp2;go_ret;exact⟨z,E⟩
 by_cases a1:2147483647<n
 .have K:R=false:=by
   rw[<-H];have M:bs 1 n 0=false:=by unfold bs;rw[aD rfl];rw[dv (p:=n<=2147483647) (by omega),If]
   simp[M]
  subst K;clear J;have F:=aZ s false w.drew S;have C:bL w w.drew:=(FB _ w).drew;go_in;refine wk fun A g=>?_;go_wp2;apply g;clear g A;refine wk fun A g=>?_;go_wp2;apply g;clear g A;refine wk fun A g=>?_;go_wp2;apply ax 16 (by kernel_rfl) (by kernel_rfl);simp only[Gu,GL,Gv,GD];repeat (go_big_quiet_step (fail))
  apply Hi;go_wp2_with fail;apply F.mono;rintro e w1 ⟨rfl,D⟩;have E:=C.trans (D.mono C.size);have G:=h.below E;clear F C D c0 c1 c2 c5;simp only[FN,if_false,Q.o];go_wp2;apply g;clear g A;refine wk fun A g=>?_;go_wp2;apply g;clear g A;let ⟨c0,c1,c2,c5⟩:=G.all
  clear h G;go_wp2;go_ret;exact⟨z,E⟩
 have V:R=(decide (args.length=0)&&di ah args d):=by
  rw[<-H];have M:bs 1 n 0=true:=by unfold bs;rw[aD rfl,eP (p:=0<=n) (by omega),eP (p:=n<=2147483647) (by omega)];rfl
  have U:=of_decide_eq_true J;simp[M,dR,U]
 subst V;clear J H;have F:=aZ s false w.drew S;have C:bL w w.drew:=(FB _ w).drew;go_in;refine wk fun A g=>?_;go_wp2;apply g;clear g A;refine wk fun A g=>?_;go_wp2;apply g;clear g A;refine wk fun A g=>?_;go_wp2;apply ax 16 (by kernel_rfl) (by kernel_rfl);simp only[Gu,GL,Gv,GD];repeat (go_big_quiet_step (fail))
 apply Hi;go_wp2_with fail;apply F.mono;rintro e w1 ⟨rfl,D⟩;have E:=C.trans (D.mono C.size);have G:=h.below E;clear F C D c0 c1 c2 c5;simp only[FN,if_false,Q.o];go_wp2;apply g;clear g A;refine wk fun A g=>?_;go_wp2;apply g;clear g A;let ⟨c0,c1,c2,c5⟩:=G.all
 refine wk fun A g=>?_;go_wp2;exact g _ _ (hb (ar:=0) hd (by decide) X E G Y)
theorem BZ{n:Int}{sl:Int}{lo:Bool}{args:List Ex}(hd:d<=24)(X:mT d)(h:dY w b j (.mk 2 n s sl lo p0 args))(S:s.size<=9223372036854775807)(Y:Ex.DJ args):
  Jq prog 187 #[.pointer (some (ad b j)),I ((d+1:Nat):Int)] w fun e w'=>e= .returned (.bool (de ah (.mk 2 n s sl lo p0 args) (d+1)))/\bL w w':=by
 let ⟨R,D⟩:=eX (de ah (.mk 2 n s sl lo p0 args) (d+1))
 rw[D];rw[db]at D;have a0:¬ ((d+1:Nat):Int)<1:=by omega
 let ⟨c0,c1,c2,c5⟩:=h.all
 rcases bq n 0 with M|M
 .have G:R=false:=by rw[<-D];simp[M]
  have a1:(n !=0)=true:=by simpa using M
  subst G;go_in;go_wp2;go_ret;exact⟨z,FB _ w⟩
 subst M;rcases bq p0 0 with K|K
 .have G:R=false:=by rw[<-D];simp[K]
  have Z:(p0 !=0)=true:=by simpa using K
  subst G;go_in;go_wp2;go_ret;exact⟨z,FB _ w⟩
 subst K;let ⟨mn,F⟩:=eX (ah s)
 have Q:=O F;cases mn
 .have G:R=false:=by rw[<-D];simp[F]
  subst G;clear F;have J:=aZ s true w.drew S;have C:bL w w.drew:=(FB _ w).drew;go_in;refine wk fun A g=>?_;go_wp2;apply g;clear g A;refine wk fun A g=>?_;go_wp2;apply g;clear g A;refine wk fun A g=>?_;go_wp2;apply ax 16 (by kernel_rfl) (by kernel_rfl);simp only[Gu,GL,Gv,GD];repeat (go_big_quiet_step (fail))
  apply Hi;go_wp2_with fail;apply J.mono;rintro e w1 ⟨rfl,E⟩;have H:=C.trans (E.mono C.size);have N:=h.below H;clear J C E c0 c1 c2 c5;simp only[if_true,Q.o];go_wp2;go_ret;exact⟨z,H⟩
 have W:R=(decide (args.length=0)&&di ah args d):=by
  rw[<-D];have V:bs 2 0 0=true:=by unfold bs;decide
  have U:=F;simp[V,dR,U]
 subst W;clear F D;have J:=aZ s true w.drew S;have C:bL w w.drew:=(FB _ w).drew;go_in;refine wk fun A g=>?_;go_wp2;apply g;clear g A;refine wk fun A g=>?_;go_wp2;apply g;clear g A;refine wk fun A g=>?_;go_wp2;apply ax 16 (by kernel_rfl) (by kernel_rfl);simp only[Gu,GL,Gv,GD];repeat (go_big_quiet_step (fail))
 apply Hi;go_wp2_with fail;apply J.mono;rintro e w1 ⟨rfl,E⟩;have H:=C.trans (E.mono C.size);have N:=h.below H;clear J C E c0 c1 c2 c5;simp only[if_true,Q.o];go_wp2;apply g;clear g A;refine wk fun A g=>?_;go_wp2;apply g;clear g A;let ⟨c0,c1,c2,c5⟩:=N.all
 refine wk fun A g=>?_;go_wp2;exact g _ _ (hb (ar:=0) hd (by decide) X H N Y)
theorem Bh{n:Int}{sl:Int}{lo:Bool}{args:List Ex}(hd:d<=24)(X:mT d)(h:dY w b j (.mk 3 n s sl lo p0 args))(S:s.size<=9223372036854775807)(Y:Ex.DJ args):
  Jq prog 187 #[.pointer (some (ad b j)),I ((d+1:Nat):Int)] w fun e w'=>e= .returned (.bool (de ah (.mk 3 n s sl lo p0 args) (d+1)))/\bL w w':=by
 let ⟨R,D⟩:=eX (de ah (.mk 3 n s sl lo p0 args) (d+1))
 rw[D];rw[db]at D;have a0:¬ ((d+1:Nat):Int)<1:=by omega
 let ⟨c0,c1,c2,c5⟩:=h.all
 rcases bq n 0 with M|M
 .have G:R=false:=by rw[<-D];simp[M]
  have a1:(n !=0)=true:=by simpa using M
  subst G;go_in;go_wp2;go_ret;exact⟨z,FB _ w⟩
 subst M;rcases bq p0 0 with K|K
 .have G:R=false:=by rw[<-D];simp[K]
  have Z:(p0 !=0)=true:=by simpa using K
  subst G;go_in;go_wp2;go_ret;exact⟨z,FB _ w⟩
 subst K;let ⟨mn,F⟩:=eX (ah s)
 have Q:=O F;cases mn
 .have G:R=false:=by rw[<-D];simp[F]
  subst G;clear F;have J:=aZ s true w.drew S;have C:bL w w.drew:=(FB _ w).drew;go_in;refine wk fun A g=>?_;go_wp2;apply g;clear g A;refine wk fun A g=>?_;go_wp2;apply g;clear g A;refine wk fun A g=>?_;go_wp2;apply ax 16 (by kernel_rfl) (by kernel_rfl);simp only[Gu,GL,Gv,GD];repeat (go_big_quiet_step (fail))
  apply Hi;go_wp2_with fail;apply J.mono;rintro e w1 ⟨rfl,E⟩;have H:=C.trans (E.mono C.size);have N:=h.below H;clear J C E c0 c1 c2 c5;simp only[if_true,Q.o];go_wp2;go_ret;exact⟨z,H⟩
 have W:R=(decide (args.length=1)&&di ah args d):=by
  rw[<-D];have V:bs 3 0 0=true:=by unfold bs;decide
  have U:=F;simp[V,dR,U]
 subst W;clear F D;have J:=aZ s true w.drew S;have C:bL w w.drew:=(FB _ w).drew;go_in;refine wk fun A g=>?_;go_wp2;apply g;clear g A;refine wk fun A g=>?_;go_wp2;apply g;clear g A;refine wk fun A g=>?_;go_wp2;apply ax 16 (by kernel_rfl) (by kernel_rfl);simp only[Gu,GL,Gv,GD];repeat (go_big_quiet_step (fail))
 apply Hi;go_wp2_with fail;apply J.mono;rintro e w1 ⟨rfl,E⟩;have H:=C.trans (E.mono C.size);have N:=h.below H;clear J C E c0 c1 c2 c5;simp only[if_true,Q.o];go_wp2;apply g;clear g A;refine wk fun A g=>?_;go_wp2;apply g;clear g A;let ⟨c0,c1,c2,c5⟩:=N.all
 refine wk fun A g=>?_;go_wp2;exact g _ _ (hb (ar:=1) hd (by decide) X H N Y)
theorem Cj{n:Int}{sl:Int}{lo:Bool}{args:List Ex}(hd:d<=24)(Y:mT d)(h:dY w b j (.mk 4 n s sl lo p0 args))(S:s.size<=9223372036854775807)(Z:Ex.DJ args):
  Jq prog 187 #[.pointer (some (ad b j)),I ((d+1:Nat):Int)] w fun e w'=>e= .returned (.bool (de ah (.mk 4 n s sl lo p0 args) (d+1)))/\bL w w':=by
 let ⟨R,D⟩:=eX (de ah (.mk 4 n s sl lo p0 args) (d+1))
 rw[D];rw[db]at D;have a1:¬ ((d+1:Nat):Int)<1:=by omega
 let ⟨c0,c1,c2,c5⟩:=h.all
 rcases bq n 0 with M|M
 .have G:R=false:=by rw[<-D];simp[M]
  have a2:(n !=0)=true:=by simpa using M
  subst G;go_in;go_wp2;go_ret;exact⟨z,FB _ w⟩
 subst M;rcases bq p0 0 with K|K
 .have G:R=false:=by rw[<-D];simp[K]
  have a0:(p0 !=0)=true:=by simpa using K
  subst G;go_in;go_wp2;go_ret;exact⟨z,FB _ w⟩
 subst K;let ⟨mn,F⟩:=eX (decide (s=aq))
 have Q:=O F;cases mn
 .have G:R=false:=by rw[<-D];have X:=of_decide_eq_false F;simp[X]
  subst G;clear F;have J:=aZ s false w.drew S;have C:bL w w.drew:=(FB _ w).drew;go_in;refine wk fun A g=>?_;go_wp2;apply g;clear g A;refine wk fun A g=>?_;go_wp2;apply g;clear g A;refine wk fun A g=>?_;go_wp2;apply ax 16 (by kernel_rfl) (by kernel_rfl);simp only[Gu,GL,Gv,GD];repeat (go_big_quiet_step (fail))
  apply Hi;go_wp2_with fail;apply J.mono;rintro e w1 ⟨rfl,E⟩;have H:=C.trans (E.mono C.size);have N:=h.below H;clear J C E c0 c1 c2 c5;simp only[FN,if_false,Q.o];go_wp2;go_ret;exact⟨z,H⟩
 have W:R=(decide (args.length=1)&&di ah args d):=by
  rw[<-D];have V:bs 4 0 0=true:=by unfold bs;decide
  have U:=of_decide_eq_true F;simp[V,dR,U]
 subst W;clear F D;have J:=aZ s false w.drew S;have C:bL w w.drew:=(FB _ w).drew;go_in;refine wk fun A g=>?_;go_wp2;apply g;clear g A;refine wk fun A g=>?_;go_wp2;apply g;clear g A;refine wk fun A g=>?_;go_wp2;apply ax 16 (by kernel_rfl) (by kernel_rfl);simp only[Gu,GL,Gv,GD];repeat (go_big_quiet_step (fail))
 apply Hi;go_wp2_with fail;apply J.mono;rintro e w1 ⟨rfl,E⟩;have H:=C.trans (E.mono C.size);have N:=h.below H;clear J C E c0 c1 c2 c5;simp only[FN,if_false,Q.o];go_wp2;apply g;clear g A;refine wk fun A g=>?_;go_wp2;apply g;clear g A;let ⟨c0,c1,c2,c5⟩:=N.all
 refine wk fun A g=>?_;go_wp2;exact g _ _ (hb (ar:=1) hd (by decide) Y H N Z)
theorem Be{n:Int}{sl:Int}{lo:Bool}{args:List Ex}(hd:d<=24)(Y:mT d)(h:dY w b j (.mk 5 n s sl lo p0 args))(S:s.size<=9223372036854775807)(Z:Ex.DJ args):
  Jq prog 187 #[.pointer (some (ad b j)),I ((d+1:Nat):Int)] w fun e w'=>e= .returned (.bool (de ah (.mk 5 n s sl lo p0 args) (d+1)))/\bL w w':=by
 let ⟨R,D⟩:=eX (de ah (.mk 5 n s sl lo p0 args) (d+1))
 rw[D];rw[db]at D;have a1:¬ ((d+1:Nat):Int)<1:=by omega
 let ⟨c0,c1,c2,c5⟩:=h.all
 rcases bq n 0 with M|M
 .have G:R=false:=by rw[<-D];simp[M]
  have a2:(n !=0)=true:=by simpa using M
  subst G;go_in;go_wp2;go_ret;exact⟨z,FB _ w⟩
 subst M;rcases bq p0 0 with K|K
 .have G:R=false:=by rw[<-D];simp[K]
  have a0:(p0 !=0)=true:=by simpa using K
  subst G;go_in;go_wp2;go_ret;exact⟨z,FB _ w⟩
 subst K;let ⟨mn,F⟩:=eX (decide (s=aq))
 have Q:=O F;cases mn
 .have G:R=false:=by rw[<-D];have X:=of_decide_eq_false F;simp[X]
  subst G;clear F;have J:=aZ s false w.drew S;have C:bL w w.drew:=(FB _ w).drew;go_in;refine wk fun A g=>?_;go_wp2;apply g;clear g A;refine wk fun A g=>?_;go_wp2;apply g;clear g A;refine wk fun A g=>?_;go_wp2;apply ax 16 (by kernel_rfl) (by kernel_rfl);simp only[Gu,GL,Gv,GD];repeat (go_big_quiet_step (fail))
  apply Hi;go_wp2_with fail;apply J.mono;rintro e w1 ⟨rfl,E⟩;have H:=C.trans (E.mono C.size);have N:=h.below H;clear J C E c0 c1 c2 c5;simp only[FN,if_false,Q.o];go_wp2;go_ret;exact⟨z,H⟩
 have W:R=(decide (args.length=1)&&di ah args d):=by
  rw[<-D];have V:bs 5 0 0=true:=by unfold bs;decide
  have U:=of_decide_eq_true F;simp[V,dR,U]
 subst W;clear F D;have J:=aZ s false w.drew S;have C:bL w w.drew:=(FB _ w).drew;go_in;refine wk fun A g=>?_;go_wp2;apply g;clear g A;refine wk fun A g=>?_;go_wp2;apply g;clear g A;refine wk fun A g=>?_;go_wp2;apply ax 16 (by kernel_rfl) (by kernel_rfl);simp only[Gu,GL,Gv,GD];repeat (go_big_quiet_step (fail))
 apply Hi;go_wp2_with fail;apply J.mono;rintro e w1 ⟨rfl,E⟩;have H:=C.trans (E.mono C.size);have N:=h.below H;clear J C E c0 c1 c2 c5;simp only[FN,if_false,Q.o];go_wp2;apply g;clear g A;refine wk fun A g=>?_;go_wp2;apply g;clear g A;let ⟨c0,c1,c2,c5⟩:=N.all
 refine wk fun A g=>?_;go_wp2;exact g _ _ (hb (ar:=1) hd (by decide) Y H N Z)
theorem BC{n:Int}{sl:Int}{lo:Bool}{args:List Ex}(hd:d<=24)(X:mT d)(h:dY w b j (.mk 6 n s sl lo p0 args))(S:s.size<=9223372036854775807)(Y:Ex.DJ args):
  Jq prog 187 #[.pointer (some (ad b j)),I ((d+1:Nat):Int)] w fun e w'=>e= .returned (.bool (de ah (.mk 6 n s sl lo p0 args) (d+1)))/\bL w w':=by
 let ⟨R,H⟩:=eX (de ah (.mk 6 n s sl lo p0 args) (d+1))
 rw[H];rw[db]at H;have a1:¬ ((d+1:Nat):Int)<1:=by omega
 let ⟨c0,c1,c2,c5⟩:=h.all
 rcases bq n 0 with Q|Q
 .have K:R=false:=by rw[<-H];simp[Q]
  have a2:(n !=0)=true:=by simpa using Q
  subst K;go_in;go_wp2;go_ret;exact⟨z,FB _ w⟩
 subst Q;let ⟨mn,J⟩:=eX (decide (s=aq))
 have N:=O J;cases mn
 .have K:R=false:=by rw[<-H];have W:=of_decide_eq_false J;simp[W]
  subst K;clear J;have F:=aZ s false w.drew S;have C:bL w w.drew:=(FB _ w).drew;go_in;refine wk fun A g=>?_;go_wp2;apply g;clear g A;refine wk fun A g=>?_;go_wp2;apply g;clear g A;refine wk fun A g=>?_;go_wp2;apply ax 16 (by kernel_rfl) (by kernel_rfl);simp only[Gu,GL,Gv,GD];repeat (go_big_quiet_step (fail))
  apply Hi;go_wp2_with fail;apply F.mono;rintro e w1 ⟨rfl,D⟩;have E:=C.trans (D.mono C.size);have G:=h.below E;clear F C D c0 c1 c2 c5;simp only[FN,if_false,N.o];go_wp2;go_ret;exact⟨z,E⟩
 by_cases Z:p0<1
 .have K:R=false:=by
   rw[<-H];have M:bs 6 0 p0=false:=by unfold bs;rw[am (by decide),aD rfl];rw[dv (by omega),HD]
   simp[M]
  subst K;clear J;have F:=aZ s false w.drew S;have C:bL w w.drew:=(FB _ w).drew;go_in;refine wk fun A g=>?_;go_wp2;apply g;clear g A;refine wk fun A g=>?_;go_wp2;apply g;clear g A;refine wk fun A g=>?_;go_wp2;apply ax 16 (by kernel_rfl) (by kernel_rfl);simp only[Gu,GL,Gv,GD];repeat (go_big_quiet_step (fail))
  apply Hi;go_wp2_with fail;apply F.mono;rintro e w1 ⟨rfl,D⟩;have E:=C.trans (D.mono C.size);have G:=h.below E;clear F C D c0 c1 c2 c5;simp only[FN,if_false,N.o];go_wp2;apply g;clear g A;refine wk fun A g=>?_;go_wp2;apply g;clear g A;let ⟨c0,c1,c2,c5⟩:=G.all
  clear h G;go_wp2;go_ret;exact⟨z,E⟩
 by_cases a0:11<p0
 .have K:R=false:=by
   rw[<-H];have M:bs 6 0 p0=false:=by unfold bs;rw[am (by decide),aD rfl];rw[dv (p:=p0<=11) (by omega),If]
   simp[M]
  subst K;clear J;have F:=aZ s false w.drew S;have C:bL w w.drew:=(FB _ w).drew;go_in;refine wk fun A g=>?_;go_wp2;apply g;clear g A;refine wk fun A g=>?_;go_wp2;apply g;clear g A;refine wk fun A g=>?_;go_wp2;apply ax 16 (by kernel_rfl) (by kernel_rfl);simp only[Gu,GL,Gv,GD];repeat (go_big_quiet_step (fail))
  apply Hi;go_wp2_with fail;apply F.mono;rintro e w1 ⟨rfl,D⟩;have E:=C.trans (D.mono C.size);have G:=h.below E;clear F C D c0 c1 c2 c5;simp only[FN,if_false,N.o];go_wp2;apply g;clear g A;refine wk fun A g=>?_;go_wp2;apply g;clear g A;let ⟨c0,c1,c2,c5⟩:=G.all
  clear h G;go_wp2;go_ret;exact⟨z,E⟩
 have V:R=(decide (args.length=2)&&di ah args d):=by
  rw[<-H];have M:bs 6 0 p0=true:=by unfold bs;rw[am (by decide),aD rfl,eP (p:=1<=p0) (by omega),eP (p:=p0<=11) (by omega)];rfl
  have U:=of_decide_eq_true J;simp[M,dR,U]
 subst V;clear J H;have F:=aZ s false w.drew S;have C:bL w w.drew:=(FB _ w).drew;go_in;refine wk fun A g=>?_;go_wp2;apply g;clear g A;refine wk fun A g=>?_;go_wp2;apply g;clear g A;refine wk fun A g=>?_;go_wp2;apply ax 16 (by kernel_rfl) (by kernel_rfl);simp only[Gu,GL,Gv,GD];repeat (go_big_quiet_step (fail))
 apply Hi;go_wp2_with fail;apply F.mono;rintro e w1 ⟨rfl,D⟩;have E:=C.trans (D.mono C.size);have G:=h.below E;clear F C D c0 c1 c2 c5;simp only[FN,if_false,N.o];go_wp2;apply g;clear g A;refine wk fun A g=>?_;go_wp2;apply g;clear g A;let ⟨c0,c1,c2,c5⟩:=G.all
 refine wk fun A g=>?_;go_wp2;exact g _ _ (hb (ar:=2) hd (by decide) X E G Y)
theorem td{k n:Int}{sl:Int}{lo:Bool}{args:List Ex}(hd:d<=24)(_:mT d)(H:k≠1)(C:k≠2)(Q:k≠3)(h4:k≠4)(Z:k≠5)(G:k≠6)(h:dY w b j (.mk k n s sl lo p0 args))(W:s.size<=9223372036854775807)(_:Ex.DJ args):
  Jq prog 187 #[.pointer (some (ad b j)),I ((d+1:Nat):Int)] w fun e w'=>e= .returned (.bool (de ah (.mk k n s sl lo p0 args) (d+1)))/\bL w w':=by
 let ⟨R,F⟩:=eX (de ah (.mk k n s sl lo p0 args) (d+1))
 rw[F];rw[db]at F;have a3:¬ ((d+1:Nat):Int)<1:=by omega
 let ⟨c0,c1,c2,c5⟩:=h.all
 have k1:(k !=1)=true:=by simpa using H
 have k6:(k !=6)=true:=by simpa using G
 have e1:(k==1)=false:=by simpa using H
 have e2:(k==2)=false:=by simpa using C
 have e3:(k==3)=false:=by simpa using Q
 have e4:(k==4)=false:=by simpa using h4
 have e5:(k==5)=false:=by simpa using Z
 have e6:(k==6)=false:=by simpa using G
 rcases bq n 0 with U|U
 .have D:R=false:=by rw[<-F];simp[H,C,Q,G,U]
  have a4:(n !=0)=true:=by simpa using U
  subst D;go_in;go_wp2;go_ret;exact⟨z,FB _ w⟩
 subst U;rcases bq p0 0 with N|N
 .have D:R=false:=by rw[<-F];simp[H,C,Q,G,N]
  have a0:(p0 !=0)=true:=by simpa using N
  subst D;go_in;go_wp2;go_ret;exact⟨z,FB _ w⟩
 subst N;let ⟨mn,S⟩:=eX (decide (s=aq))
 have V:=O S;cases mn
 .have D:R=false:=by rw[<-F];have Y:=of_decide_eq_false S;simp[H,C,Q,G,Y]
  subst D;clear S;have M:=aZ s false w.drew W;have E:bL w w.drew:=(FB _ w).drew;go_in;refine wk fun A g=>?_;go_wp2;apply g;clear g A;refine wk fun A g=>?_;go_wp2;apply g;clear g A;refine wk fun A g=>?_;go_wp2;apply ax 16 (by kernel_rfl) (by kernel_rfl);simp only[Gu,GL,Gv,GD];repeat (go_big_quiet_step (fail))
  apply Hi;go_wp2_with fail;apply M.mono;rintro e w1 ⟨rfl,J⟩;have K:=E.trans (J.mono E.size);have C:=h.below K;clear M E J c0 c1 c2 c5;simp only[FN,if_false,V.o];go_wp2;go_ret;exact⟨z,K⟩
 have D:R=false:=by
  have X:bs k 0 0=false:=by
   unfold bs;rw[am H,am G];have:¬ (2<=k/\k<=5):=by omega
   rw[<-Bool.not_eq_true,FG,decide_eq_true_eq,decide_eq_true_eq];exact this
  rw[<-F];simp[X]
 subst D;clear S F;have M:=aZ s false w.drew W;have E:bL w w.drew:=(FB _ w).drew;go_in;refine wk fun A g=>?_;go_wp2;apply g;clear g A;refine wk fun A g=>?_;go_wp2;apply g;clear g A;refine wk fun A g=>?_;go_wp2;apply ax 16 (by kernel_rfl) (by kernel_rfl);simp only[Gu,GL,Gv,GD];repeat (go_big_quiet_step (fail))
 apply Hi;go_wp2_with fail;apply M.mono;rintro e w1 ⟨rfl,J⟩;have K:=E.trans (J.mono E.size);have C:=h.below K;clear M E J c0 c1 c2 c5;simp only[FN,if_false,V.o];go_wp2;apply g;clear g A;obtain⟨c0,-⟩:=C.all;clear h C;go_wp2;go_ret;exact⟨z,K⟩
theorem rj:∀ (d:Nat),d<=24->mT d:=by
 intro d;induction d with
 |zero=>
  intro _ x b K w h g;have J:de ah x 0=false:=by
   let ⟨k,n,s,sl,lo,o,args⟩:=x
   rw[db];simp
  rw[J];go_in;go_wp2;go_ret;exact⟨z,FB _ w⟩
 |succ d j=>
  intro hd x b K w h g;have j:=j (by omega);let ⟨k,n,s,sl,lo,o,args⟩:=x
  unfold Ex.nb at g;have A:d<=24:=by omega
  by_cases G:k=1
  .subst G;exact Bk A j h g.1 g.2
  by_cases D:k=2
  .subst D;exact BZ A j h g.1 g.2
  by_cases C:k=3
  .subst C;exact Bh A j h g.1 g.2
  by_cases F:k=4
  .subst F;exact Cj A j h g.1 g.2
  by_cases H:k=5
  .subst H;exact Be A j h g.1 g.2
  by_cases E:k=6
  .subst E;exact BC A j h g.1 g.2
  exact td A j G D C F H E h g.1 g.2
theorem jf(x:Ex)(nd:Bool)(b D:Nat)(w:Fk)(h:dY w b D x)(G:x.nb):Jq prog 170 #[.pointer (some (ad b D)),.bool nd] w fun e w'=>e= .returned (.bool (if nd=true then de ah x 24 else iB x))/\bL w w':=by
 cases nd
 .rw[am FY];let ⟨k,n,s,sl,lo,o,args⟩:=x
  let ⟨c0,c1,c2,c5⟩:=h.all
  obtain⟨a,cap,c6,M,-⟩:=h.args;let ⟨R,j⟩:=eX (iB (.mk k n s sl lo o args))
  rw[j];unfold iB at j;clear h G;rcases bq k 0 with g|g
  .have C:R=false:=by rw[<-j];simp[g]
   subst C;go_in;go_wp2;go_ret;exact⟨z,FB _ w⟩
  subst g;rcases bq n 0 with g|g
  .have C:R=false:=by rw[<-j];simp[g]
   subst C;go_in;go_wp2;go_ret;exact⟨z,FB _ w⟩
  subst g;rcases bq s aq with g|g
  .have C:R=false:=by rw[<-j];simp[g]
   subst C;have K:s.toList.isEmpty=false:=by rw[eA];exact dv g
   go_in;go_wp2;go_ret;exact⟨z,FB _ w⟩
  have K:s.toList.isEmpty=true:=by rw[eA];exact eP g
  rcases bq o 0 with A|A
  .have C:R=false:=by rw[<-j];simp[A]
   subst C;clear g;go_in;go_wp2;go_ret;exact⟨z,FB _ w⟩
  subst A;rcases bq args.length 0 with A|A
  .have C:R=false:=by rw[<-j];simp;intro _ e;subst e;simp at A
   subst C;have N:(((args.length:Nat):Int)==0)=false:=by rw[beq_eq_false_iff_ne];omega
   clear g j;go_in;go_wp2;go_ret;exact⟨z,FB _ w⟩
  have J:R=true:=by rw[<-j];simp[g,A]
  subst J;rw[A]at c6;clear g j A;go_in;go_wp2;go_ret;exact⟨z,FB _ w⟩
 .rw[aD rfl];have E:=rj 24 rl x b D w h G;have F:((24:Nat):Int)=24:=z;rw[F]at E;clear F;go_in;go_wp2_with fail;apply E.mono;rintro e w1 ⟨rfl,H⟩;go_wp2;go_ret;exact⟨z,H⟩
def Bl(k:Nat):List Fr:=[.bool (ov k),.bool (nu k),.bool (jn k),.bool (decide ((k:Int)=3)),.bool (decide ((k:Int)=4)||decide ((k:Int)=5)),.bool (decide ((k:Int)=4))]
def oA(w:Fk):Prop:=∀k:Nat,1<=k->k<16->w.rangeAt 1 (k*6) (Bl k)
theorem oA.below{w':Fk}(h:oA w)(A:bL w w'):oA w':=fun k D C j v g=>by have:=h k D C j v g;rw[<-this];simp[FI,A.block 1 (FF w _ this)]
def wh(d:Nat):Prop:=∀ (s:St) (b off:Nat) (w:Fk),oA w->gy w b off s->s.nb->Jq prog 147 #[.pointer (some ⟨b,off,none⟩),.int .i64 (d:Int)] w fun e w'=>e= .returned (.bool (jv ah s d))/\FM w.1.size w w'
def tR(d:Nat):Prop:=∀ (l:List St) (a:Option Addr) (cap:Nat) (w:Fk),oA w->eK w a cap l->St.DJ l->Jq prog 115 #[.slice a l.length cap,.int .i64 (d:Int)] w fun e w'=>e= .returned (.bool (bB ah l d))/\FM w.1.size w w'
theorem uk(s:St)(d:Nat)(h:24<d):jv ah s d=false:=by
 let ⟨F,sl,H,J,E,g,A,sb,C,G,D,w,j⟩:=s
 unfold jv;rw[dv (p:=d<=24) (by omega),HD,If]
theorem pO{cap:Nat}{l:List St}{R:Bool}(M:aF j cap)(Q:Hid (l.length=j))(D:Hid (bB ah (l.drop 0) d=R))(W:Hid (St.DJ l))(g:Hid (bL w w/\eK w a cap l))(V:Hid (0<j->wh d))(Z:oA w)(hU:l2.length=23:=by rfl):
  FR prog (Jp 2 (f115.body.getD .skip)) (Gb prog f115 (fun e w'=>e= .returned (.bool R)/\bL w w')) ⟨(.slice a j cap::I d::l2).toArray,[]⟩ w:=by
 revert l2;apply aN;iterate 23 intro _
 change FR _ _ _ _ _;conv in (Jp _ _)=>whnf
 go_wp2;go_loopg [15] j (fun x iv wr=>∃i:Nat,i<=j/\x=j-i/\iv=I i/\Hid (bL w wr/\eK wr a cap l)/\Hid (bB ah (l.drop i) d=R));case atStart=>exact⟨0,FX _,z,z,g,D⟩
 case round=>
  clear g D;obtain⟨i,hi,rfl,rfl,g,D⟩:=hrel;let ⟨A,C⟩:=g
  by_cases a3:i<j
  .have a1:(i:Int)< (j:Int):=by omega
   have a5:(0:Int)<=(i:Int):=by omega
   have a4:(i:Int)+1<=9223372036854775807:=by have C:=M.1;have h2:=M.2;omega
   obtain⟨s,E⟩:∃s,l[i]? =some s:=⟨_,FC (by rw[Q.o];exact a3)⟩;have H:=D.o;rw[lA E]at H;obtain⟨b2,Y,rfl,N⟩:=C.at E;have G:=V (by omega) s b2 (Y+i*25) wr (Z.below A) N (St.DM W E);let ⟨m,S⟩:=eX (jv ah s d)
   rw[S]at G H;have J:=O H;clear N E S H D;go_wp2_with fail;apply G.mono;rintro e w2 ⟨rfl,F⟩;have K:=A.trans (F.mono A.size);cases m
   .have X:R=false:=J.symm;subst X;clear g G C A F;go_wp2;go_ret;exact⟨z,K⟩
   .have a2:Hid (bB ah (l.drop (i+1)) d=R):=O J;have U:=O (EQ K (C.below F));clear g G C A F K J;go_wp2;go_roundg (j- (i+1));case measure=>omega
    case rel=>exact⟨i+1,by omega,z,z,U,a2⟩
  .obtain rfl:i=j:=by omega
   have a1:¬ (i:Int)< (i:Int):=by omega
   have a0:R=true:=by rw[<-D.o,Gw (by rw[Q.o];exact FL _)];unfold bB;rfl
   subst a0;clear C g;go_wp2;go_ret;exact⟨z,A⟩
theorem oq(hd:d<=25)(V:d<=24->wh d):tR d:=by
 intro l a cap w M h Q;let ⟨R,G⟩:=eX (bB ah (l.drop 0) d)
 rw[show bB ah l d=R from G];let ⟨g,F⟩:=eX (l.length)
 have A:=h.1;rw[F]at A ⊢;have D:=O F;have E:=O G;have K:=O Q;have C:=O (EQ (FB w.1.size w) h);clear F G Q h;by_cases N:24<d/\0<g
 .have U:R=false:=by
   have H:0<l.length:=by rw[D.o];exact N.2
   have X:=FC H;rw[<-E.o,lA X,uk _ _ N.1];rfl
  subst U;have Y:(24:Int)< (d:Int):=by omega
  have W:(0:Int)< (g:Int):=by omega
  clear C;go_in;go_wp2;go_ret;exact⟨z,FB _ w⟩
 have J:Hid (0<g->wh d):=O (fun h=>V (by omega));go_in;refine wk fun S j=>?_;go_wp2;apply j;clear j S;refine wk fun S j=>?_;by_cases Z:(24:Int)< (d:Int)
 .have W:¬ (0:Int)< (g:Int):=by omega
  go_wp2;exact j _ _ (pO A D E K C J M)
 .go_wp2;exact j _ _ (pO A D E K C J M)
theorem Bs{q:Nat}{k sl:Int}{sb:List St}{b0 b1 b2 b3:Bool}(hd:d<=24)(hB:tR (d+1))(M:gy W b j (.mk k sl p0 s6 s7 e0 e1 sb T0 p1 p2 p3 z4))(hq:ak W q 254 [.bool b0,.bool b1,.bool b2,.bool b3,.bool z3,.bool z2])(J:oA W)(E:bL w W)(b8:St.DJ sb)(b5:St.DJ T0)
  (b6:bB ah sb (d+1)=z0)(a9:bB ah T0 (d+1)=z1)(hU:l2.length=92:=by rfl):
  FR prog (Jp 5 (f147.body.getD .skip)) (Gb prog f147 (fun e w'=>e= .returned (.bool ((z3||decide (sb.length=0))&& ((z2||decide (T0.length=0))&& (z0&&z1))))/\bL w w')) ⟨(.pointer (some (ad b j))::I d::v0::v1::v2::Pt q::l2).toArray,[]⟩ W:=by
 revert l2;apply aN;iterate 92 intro _
 change FR _ _ _ _ _;conv in (Jp _ _)=>whnf
 obtain⟨-,-,-,-,-,-,-,⟨ab,c9,a6,b7⟩,ae,a2,F,Q⟩:=M.parts;have q4:=hq.cell 4;have q5:=hq.cell 5;simp only[FH,FE]at q4 q5;have X:=hB sb ab c9 W J b7 b8;rw[b6]at X;have N:((d:Int)+1)=((d+1:Nat):Int):=by omega
 rw[<-N]at X;have d1:(d:Int)+1<=9223372036854775807:=by omega
 have d0:(0:Int)<=(d:Int):=by omega
 let ⟨nB,b4⟩:=eX (sb.length)
 let ⟨d2,a7⟩:=eX (T0.length)
 rw[b4]at a6 X ⊢;rw[a7]at F ⊢;have a1:=O a7;clear b4 a7;let ⟨R,hR⟩:=eX (((z3||decide (nB=0))&& ((z2||decide (d2=0))&& (z0&&z1))))
 rw[hR];have U:=O hR;have S:=O (EQ M (EQ J E));have HB:=O hB;have HM:=O (EQ a9 b5);clear hR M J E hB b6 a9 b8 b5 b7 Q hq N;cases z3
 .cases z2
  .skip;rcases bq nB 0 with Y|Y
   .have H:R=false:=by rw[<-U.o];simp[Y]
    subst H;have a8:=Y;have a4:=S.2.2;clear S;go_wp2;go_ret;exact⟨z,a4⟩
   subst Y;rcases bq d2 0 with Z|Z
   .have H:R=false:=by rw[<-U.o];simp[Z]
    subst H;have a8:=Z;have b9:0<d2:=by omega
    have c8:(0:Int)< (d2:Int):=by omega
    have a4:=S.2.2;clear S;go_wp2;go_ret;exact⟨z,a4⟩
   subst Z;have C:R=(z0&&z1):=by rw[<-U.o];simp
   have a5:=O C;clear C;go_wp2_with fail;apply X.mono;rintro e w1 ⟨rfl,g⟩;let ⟨M,J,E⟩:=S
   have G:=M.below g;have K:=J.below g;have D:=E.trans (g.mono E.size);clear X M J E g a6 F q4 q5;cases z0
   .have H:R=false:=by rw[<-U.o];simp
    subst H;clear G K;go_wp2;go_ret;exact⟨z,D⟩
   obtain⟨-,-,-,-,-,-,-,-,ae,a2,F,Q⟩:=G.parts;have A:=HB T0 ae a2 w1 K Q HM.2;rw[HM.o.1,a1.o]at A;rw[a1.o]at F;have N:((d:Int)+1)=((d+1:Nat):Int):=by omega
   rw[<-N]at A;clear G K Q N;go_wp2_with fail;apply A.mono;rintro e w3 ⟨rfl,V⟩;have a3:=D.trans (V.mono D.size);clear A V D F;have C:=a5.o;subst C;go_wp2;go_ret;exact⟨z,a3⟩
  .skip;rcases bq nB 0 with Y|Y
   .have H:R=false:=by rw[<-U.o];simp[Y]
    subst H;have a8:=Y;have a4:=S.2.2;clear S;go_wp2;go_ret;exact⟨z,a4⟩
   subst Y;have C:R=(z0&&z1):=by rw[<-U.o];simp
   have a5:=O C;clear C;go_wp2_with fail;apply X.mono;rintro e w1 ⟨rfl,g⟩;let ⟨M,J,E⟩:=S
   have G:=M.below g;have K:=J.below g;have D:=E.trans (g.mono E.size);clear X M J E g a6 F q4 q5;cases z0
   .have H:R=false:=by rw[<-U.o];simp
    subst H;clear G K;go_wp2;go_ret;exact⟨z,D⟩
   obtain⟨-,-,-,-,-,-,-,-,ae,a2,F,Q⟩:=G.parts;have A:=HB T0 ae a2 w1 K Q HM.2;rw[HM.o.1,a1.o]at A;rw[a1.o]at F;have N:((d:Int)+1)=((d+1:Nat):Int):=by omega
   rw[<-N]at A;clear G K Q N;go_wp2_with fail;apply A.mono;rintro e w3 ⟨rfl,V⟩;have a3:=D.trans (V.mono D.size);clear A V D F;have C:=a5.o;subst C;go_wp2;go_ret;exact⟨z,a3⟩
 .cases z2
  .skip;rcases bq d2 0 with Z|Z
   .have H:R=false:=by rw[<-U.o];simp[Z]
    subst H;have a8:=Z;have b9:0<d2:=by omega
    have c8:(0:Int)< (d2:Int):=by omega
    have a4:=S.2.2;clear S;go_wp2;go_ret;exact⟨z,a4⟩
   subst Z;have C:R=(z0&&z1):=by rw[<-U.o];simp
   have a5:=O C;clear C;go_wp2_with fail;apply X.mono;rintro e w1 ⟨rfl,g⟩;let ⟨M,J,E⟩:=S
   have G:=M.below g;have K:=J.below g;have D:=E.trans (g.mono E.size);clear X M J E g a6 F q4 q5;cases z0
   .have H:R=false:=by rw[<-U.o];simp
    subst H;clear G K;go_wp2;go_ret;exact⟨z,D⟩
   obtain⟨-,-,-,-,-,-,-,-,ae,a2,F,Q⟩:=G.parts;have A:=HB T0 ae a2 w1 K Q HM.2;rw[HM.o.1,a1.o]at A;rw[a1.o]at F;have N:((d:Int)+1)=((d+1:Nat):Int):=by omega
   rw[<-N]at A;clear G K Q N;go_wp2_with fail;apply A.mono;rintro e w3 ⟨rfl,V⟩;have a3:=D.trans (V.mono D.size);clear A V D F;have C:=a5.o;subst C;go_wp2;go_ret;exact⟨z,a3⟩
  .skip;have C:R=(z0&&z1):=by rw[<-U.o];simp
   have a5:=O C;clear C;go_wp2_with fail;apply X.mono;rintro e w1 ⟨rfl,g⟩;let ⟨M,J,E⟩:=S
   have G:=M.below g;have K:=J.below g;have D:=E.trans (g.mono E.size);clear X M J E g a6 F q4 q5;cases z0
   .have H:R=false:=by rw[<-U.o];simp
    subst H;clear G K;go_wp2;go_ret;exact⟨z,D⟩
   obtain⟨-,-,-,-,-,-,-,-,ae,a2,F,Q⟩:=G.parts;have A:=HB T0 ae a2 w1 K Q HM.2;rw[HM.o.1,a1.o]at A;rw[a1.o]at F;have N:((d:Int)+1)=((d+1:Nat):Int):=by omega
   rw[<-N]at A;clear G K Q N;go_wp2_with fail;apply A.mono;rintro e w3 ⟨rfl,V⟩;have a3:=D.trans (V.mono D.size);clear A V D F;have C:=a5.o;subst C;go_wp2;go_ret;exact⟨z,a3⟩
theorem BE{q:Nat}{k sl:Int}{sb:List St}{b0 b1 b2 b3:Bool}(hd:d<=24)(hB:tR (d+1))(M:gy W b j (.mk k sl p0 s6 s7 e0 e1 sb T0 p1 p2 p3 z4))(N:ak W q 254 [.bool b0,.bool b1,.bool b2,.bool b3,.bool z0,.bool z1])(K:oA W)(G:bL w W)(a3:St.DJ sb)(Z:St.DJ T0)
  (a0:bB ah sb (d+1)=z5)(X:bB ah T0 (d+1)=z6)
  (c3:∀W,dY W b (j+12) e1->Jq prog 170 #[.pointer (some (ad b (j+12))),.bool b3] W fun e w'=>e= .returned (.bool z2)/\bL W w')
  (c4:∀W,dY W b (j+5) e0->Jq prog 170 #[.pointer (some (ad b (j+5))),.bool b2] W fun e w'=>e= .returned (.bool z3)/\bL W w')(hU:l2.length=92:=by rfl):
  FR prog (Jp 4 (f147.body.getD .skip)) (Gb prog f147 (fun e w'=>e= .returned (.bool (z2&& (z3&& ((z0||decide (sb.length=0))&& ((z1||decide (T0.length=0))&& (z5&&z6))))))/\bL w w')) ⟨(.pointer (some (ad b j))::I d::v0::v1::v2::Pt q::l2).toArray,[]⟩ W:=by
 revert l2;apply aN;iterate 92 intro _
 change FR _ _ _ _ _;have a4:prog.follows .mixedOrders=true:=by kernel_rfl
 conv in (Jp _ _)=>whnf
 have V:∀C,bL W C->gy C b j (.mk k sl p0 s6 s7 e0 e1 sb T0 p1 p2 p3 z4)/\ak C q 254 [.bool b0,.bool b1,.bool b2,.bool b3,.bool z0,.bool z1]/\oA C/\bL w C:=fun C Q=>⟨M.below Q,N.below Q,K.below Q,G.trans (Q.mono G.size)⟩;have D:=O V;have Y:=O (EQ c3 c4);have J:=O (EQ hB (EQ a3 (EQ Z (EQ a0 X))));clear M N K G V c3 c4 hB a3 Z a0 X;refine wk fun F HK=>?_;go_wp2;apply al [] (fun C=>bL W C) a4;have g:Hid (bL W W.drew):=O ((FB _ W).drew);refine tb 0 g ?_;refine tb 1 g ?_;refine tb 2 g ?_;refine tb 3 g ?_;refine tg _ 4 g (fun E U=> (D E U).2.1.cell 3) ?_;have H:=(D _ g).1.parts;refine tn 5 fun F A=>?_;go_simp;apply (Y.1 _ H.2.2.2.2.2.2.1).mono;rintro e E ⟨rfl,a2⟩;have g:=O (g.trans (a2.mono g.size))
 clear a2 H;cases z2
 .skip;apply A _ _ (fun _=>g);clear A F;refine t0 6 g ?_;refine t0 7 g ?_;refine tu 8 g ?_;refine tu 9 g ?_;refine tu 10 g ?_;refine tu 11 g ?_;refine tu 12 g ?_;refine tu 13 g ?_;refine tu 14 g ?_;refine t0 15 g ?_;refine dn ?_;try simp only[HD,Gx]
  have S:=(D E g).2.2.2;go_wp2;go_ret;exact⟨z,S⟩
 apply A _ _ (fun _=>g);clear A F;refine t0 6 g ?_;refine t0 7 g ?_;refine tb 8 g ?_;refine tb 9 g ?_;refine tb 10 g ?_;refine tb 11 g ?_;refine tg _ 12 g (fun E U=> (D E U).2.1.cell 2) ?_;have H:=(D _ g).1.parts;refine tn 13 fun F A=>?_;go_simp;apply (Y.2 _ H.2.2.2.2.2.1).mono;rintro e R ⟨rfl,a1⟩;have g:=O (g.trans (a1.mono g.size));clear a1 H;cases z3
 .skip;apply A _ _ (fun _=>g);clear A F;refine t0 14 g ?_;refine t0 15 g ?_;refine dn ?_;try simp only[HD,Gx]
  have S:=(D R g).2.2.2;go_wp2;go_ret;exact⟨z,S⟩
 apply A _ _ (fun _=>g);clear A F;refine t0 14 g ?_;refine t0 15 g ?_;refine dn ?_;try simp only[Gx]
 let ⟨M,N,K,G⟩:=D R g
 go_wp2;exact HK _ _ (Bs hd J.1 M N K G J.2.1 J.2.2.1 J.2.2.2.1 J.2.2.2.2)
theorem uj:∃d,prog.underlying 254=some d/\d.isRow=true:=by
 have h:(prog.underlying 254).map (·.isRow)=some true:=by kernel_rfl
 let ⟨d,j,g⟩:=Option.map_eq_some_iff.1 h
 exact⟨d,j,g⟩
theorem qo:(prog.info? 254).map (·.size)=some 6:=by kernel_rfl
theorem xV(hd:d<=24)(hB:tR (d+1)):wh d:=by
 intro s b S w a0 h d1;let ⟨e7,f0,f4⟩:=uj
 have f2:prog.follows .mixedOrders=true:=by kernel_rfl
 let ⟨k,sl,sc,Z,Y,V,J,sb,se,b6,e6,d3,b9⟩:=s
 obtain⟨p0,-⟩:=h.parts;obtain⟨R,A⟩:=eX (jv ah (.mk k sl sc Z Y V J sb se b6 e6 d3 b9) d);rw[A];unfold jv at A;have HH:=O h;by_cases g1:k<=0
 .have N:R=false:=by rw[<-A,dv (p:=1<=k) (by omega)];simp
  subst N;clear h;go_enter func147,ntmps147;go_wp2;go_ret;exact⟨z,FB _ w⟩
 by_cases f9:16<=k
 .have N:R=false:=by rw[<-A,dv (p:=k<=15) (by omega)];simp
  subst N;clear h;go_enter func147,ntmps147;go_wp2;go_ret;exact⟨z,FB _ w⟩
 obtain⟨j,rfl⟩:∃j:Nat,k=(j:Int):=⟨k.toNat,by omega⟩;have f1:1<=j:=by omega
 have f3:j<16:=by omega
 have a2:=a0 j f1 f3;unfold Bl at a2;rw[eP (p:=(1:Int)<=(j:Int)) (by omega),eP (p:=(j:Int)<=15) (by omega),eP hd]at A;simp only[Bool.and_self,Gx]at A;rw[show (if (j:Int)=3 then de ah J 24 else iB J)=(if decide ((j:Int)=3)=true then de ah J 24 else iB J) by simp]at A;obtain⟨b0,e0⟩:=eX (ov (j:Int));obtain⟨b1,e1⟩:=eX (nu (j:Int));obtain⟨b2,e2⟩:=eX (jn (j:Int));obtain⟨b3,e3⟩:∃b,decide ((j:Int)=3)=b:=⟨_,z⟩;obtain⟨E,e4⟩:∃b,(decide ((j:Int)=4)||decide ((j:Int)=5))=b:=⟨_,z⟩;obtain⟨F,e5⟩:∃b,decide ((j:Int)=4)=b:=⟨_,z⟩;rw[e4]at a2 A;rw[e0,e1,e2,e3,e5]at a2 A;unfold St.nb at d1;let ⟨d2,d7,d8,d6,d4,d0⟩:=d1
 obtain⟨m1,a9⟩:∃m,(if b0=true then ah Z else decide (Z=aq))=m:=⟨_,z⟩;obtain⟨m2,a7⟩:∃m,(if b1=true then ah Y else decide (Y=aq))=m:=⟨_,z⟩;obtain⟨m3,a4⟩:∃m,(if b3=true then de ah J 24 else iB J)=m:=⟨_,z⟩;obtain⟨m4,a5⟩:∃m,(if b2=true then de ah V 24 else iB V)=m:=⟨_,z⟩;obtain⟨mb,a8⟩:=eX (bB ah sb (d+1));obtain⟨me,a6⟩:=eX (bB ah se (d+1));rw[a9,a7,a4,a5,a8,a6]at A;have c1:∀W,Jq prog 169 #[.string Z,.bool b0] W fun e w'=>e= .returned (.bool m1)/\FM W.1.size W w':=fun W=>by have:=aZ Z b0 W d2;rwa [a9]at this
 have c2:∀W,Jq prog 169 #[.string Y,.bool b1] W fun e w'=>e= .returned (.bool m2)/\FM W.1.size W w':=fun W=>by have:=aZ Y b1 W d7;rwa [a7]at this
 have c3:∀W,dY W b (S+12) J->Jq prog 170 #[.pointer (some (ad b (S+12))),.bool b3] W fun e w'=>e= .returned (.bool m3)/\FM W.1.size W w':=fun W hx=>by have:=jf J b3 b (S+12) W hx d6;rwa [a4]at this
 have c4:∀W,dY W b (S+5) V->Jq prog 170 #[.pointer (some (ad b (S+5))),.bool b2] W fun e w'=>e= .returned (.bool m4)/\FM W.1.size W w':=fun W hx=>by have:=jf V b2 b (S+5) W hx d8;rwa [a5]at this
 have HC:=O (EQ c1 (EQ c2 (EQ c3 c4)));have HM:=O (EQ a8 a6);have c9:=O (EQ d4 d0);have HR:=O A;have f6:=O a0;have f5:=O a2;have f7:(0:Int)<=(j:Int):=by omega
 have f8:(j:Int)<16:=by omega
 clear e0 e1 e2 e3 e4 e5 a9 a7 a4 a5 a8 a6 d8 d6 d4 d0 c1 c2 c3 c4 A h a0 a2 d2 d7;go_enter func147,ntmps147;refine wk fun C H=>?_;go_wp2;apply H;clear H C;refine wk fun C H=>?_;go_wp2;apply H;clear H C;refine wk fun C H=>?_
 go_wp2_with (first| ((with_reducible refine gU _ (.load 254 _) ?_);refine Gn z 254 (.tmp 22) z 1 (j*6) z [.bool b0,.bool b1,.bool b2,.bool b3,.bool E,.bool F] e7 f5.o f0 f4 qo ?_)| ((with_reducible refine cY (.store 254 _ _) ?_);refine bf qo z (.tmp 5) (.tmp 23) z w [.bool false,.bool false,.bool false,.bool false,.bool false,.bool false] [.bool b0,.bool b1,.bool b2,.bool b3,.bool E,.bool F] z z z (by intro v hv;simp only[FQ,FO,or_false]at hv;rcases hv with rfl|rfl|rfl|rfl|rfl|rfl<;>rfl) _ z z z ?_));obtain⟨q,X⟩:∃q,w.1.size=q:=⟨_,z⟩;have a3:ak (w.alloc (.cells #[.bool b0,.bool b1,.bool b2,.bool b3,.bool E,.bool F] 254)) q 254 [.bool b0,.bool b1,.bool b2,.bool b3,.bool E,.bool F]:=by rw[<-X];exact ak.new w 254 _
 have d9:FM q w (w.alloc (.cells #[.bool b0,.bool b1,.bool b2,.bool b3,.bool E,.bool F] 254)):=by rw[<-X];exact(FB _ w).alloc (FL _) _
 have b7:=HH.o.below (show FM w.1.size w (w.alloc (.cells #[.bool b0,.bool b1,.bool b2,.bool b3,.bool E,.bool F] 254)) from(FB _ w).alloc (FL _) _);have b8:=f6.o.below (show FM w.1.size w (w.alloc (.cells #[.bool b0,.bool b1,.bool b2,.bool b3,.bool E,.bool F] 254)) from(FB _ w).alloc (FL _) _);rw[X];have HP:=O p0;clear p0;generalize w.alloc (.cells #[.bool b0,.bool b1,.bool b2,.bool b3,.bool E,.bool F] 254)=D at *;have hC:∀W,FM D.1.size D W->gy W b S (.mk j sl sc Z Y V J sb se b6 e6 d3 b9)/\ak W q 254 [.bool b0,.bool b1,.bool b2,.bool b3,.bool E,.bool F]/\oA W/\FM q w W:=fun W U=>⟨b7.below U,a3.below U,b8.below U,d9.trans (U.mono (Nat.le_of_lt a3.lt))⟩;have Q:=O hC;clear b7 b8 a3 d9 hC;apply H;clear H C
 refine wk fun C H=>?_;go_wp2;apply al [] (fun W=>FM D.1.size D W) f2;have g:Hid (FM D.1.size D D.drew):=O ((FB _ D).drew);refine tb 0 g ?_;refine tb 1 g ?_;refine tb 2 g ?_;refine fO 3 (v:=?v3) z (by kernel_rfl) (by kernel_rfl) (by kernel_rfl) (by kernel_rfl) (by kernel_rfl) (fun _ _ _ h=>h) g (Or.inl ⟨by rfl,?h3⟩) ?_;case h3=> intro G K;obtain⟨-,-,-,p3,p4,-⟩:=(Q G K).1.parts;clear p4;clear K;go_simp;with_reducible rfl
 refine tb 4 g ?_;refine tg _ 5 g (fun G K=> (Q G K).2.1.cell 0) ?_;refine tn 6 fun C M=>?_;go_simp;apply (HC.1 _).mono;rintro e G ⟨rfl,d5⟩;have g:Hid (FM D.1.size D G):=O (g.trans (d5.mono g.size));clear d5;cases m1
 .apply M _ _ (fun _=>g);clear M C;refine t0 7 g ?_;refine t0 8 g ?_;refine tu 9 g ?_;refine tu 10 g ?_;refine tu 11 g ?_;refine tu 12 g ?_;refine tu 13 g ?_;refine tu 14 g ?_;refine tu 15 g ?_;refine tu 16 g ?_;refine t0 17 g ?_;refine dn ?_;have N:R=false:=by rw[<-HR.o];simp
  subst N;have a1:=(Q G g).2.2.2;rw[<-X]at a1;go_wp2;go_ret;exact⟨z,a1⟩
 apply M _ _ (fun _=>g);clear M C;refine t0 7 g ?_;refine t0 8 g ?_;refine tb 9 g ?_;refine tb 10 g ?_;refine tb 11 g ?_;refine fO 12 (v:=?v12) z (by kernel_rfl) (by kernel_rfl) (by kernel_rfl) (by kernel_rfl) (by kernel_rfl) (fun _ _ _ h=>h) g (Or.inl ⟨by rfl,?h12⟩) ?_;case h12=> intro G K;obtain⟨-,-,-,p3,p4,-⟩:=(Q G K).1.parts;clear p3;clear K;go_simp;with_reducible rfl
 refine tb 13 g ?_;refine tg _ 14 g (fun G K=> (Q G K).2.1.cell 1) ?_;refine tn 15 fun C M=>?_;go_simp;apply (HC.2.1 _).mono;rintro e W2 ⟨rfl,c8⟩;have g:Hid (FM D.1.size D W2):=O (g.trans (c8.mono g.size));clear c8;cases m2
 .apply M _ _ (fun _=>g);clear M C;refine t0 16 g ?_;refine t0 17 g ?_;refine dn ?_;have N:R=false:=by rw[<-HR.o];simp
  subst N;have a1:=(Q W2 g).2.2.2;rw[<-X]at a1;go_wp2;go_ret;exact⟨z,a1⟩
 apply M _ _ (fun _=>g);clear M C;refine t0 16 g ?_;refine t0 17 g ?_;refine dn ?_;have e8:R=(m3&& (m4&& ((E||decide (sb.length=0))&& ((F||decide (se.length=0))&& (mb&&me))))):=by rw[<-HR.o];simp
 subst e8;clear HR;let ⟨hs,e9,a0,U⟩:=Q W2 g
 rw[<-X]at U;go_wp2;exact H _ _ (BE hd hB hs e9 a0 U c9.1 c9.2 HM.1 HM.2 HC.2.2.1 HC.2.2.2)
theorem yC:∀ (m d:Nat),d+m=25->tR d:=by
 intro m;induction m with
 |zero=>
  intro d hd;exact oq (by omega) (fun h=>absurd h (by omega))
 |succ m g=> intro d hd;exact oq (by omega) (fun h=>xV h (g (d+1) (by omega)))
def qO(w:Fk)(b off:Nat)(d:De):Prop:=∃cs:List Fr,w.rangeAt b off cs/\fS (fun _=>True) w cs d
theorem qO.parts{k l c:Int}{n:Int}{body:List St}(h:qO w b j ⟨k,l,c,s,n,body⟩):
  w.cell? (ad b j)=some (I k)/\w.cell? (ad b (j+3))=some (.string s)/\w.cell? (ad b (j+4))=some (I n)/\∃a cap,w.cell? (ad b (j+5))=some (.slice a body.length cap)/\eK w a cap body:=by
 obtain⟨cs,g,a,cap,rfl,A,C⟩:=h;exact⟨g 0 _ z,g 3 _ z,g 4 _ z,a,cap,g 5 _ z,A,C⟩
theorem qO.below{w':Fk}{d:De}(h:qO w b g d)(G:bL w w'):qO w' b g d:=by
 have C:∀ (b o:Nat) (v:Fr),w.cell? (ad b o)=some v->w'.cell? (ad b o)=some v:=fun b o v A=>by rw[<-A];simp[FI,G.block b (FF w _ A)]
 let ⟨cs,H,a,cap,F,E,D⟩:=h
 exact⟨cs,fun j v A=>C _ _ _ (H j v A),a,cap,F,E,aE.keep (fun b o v _ A=>C b o v A) D⟩
def os(d:De):Prop:=∀ (b off:Nat) (w:Fk),oA w->qO w b off d->d.nb->Jq prog 78 #[.pointer (some ⟨b,off,none⟩)] w fun e w'=>e= .returned (.bool (fI ah d))/\FM w.1.size w w'
theorem BK{l c:Int}{n:Int}{body:List St}:os ⟨1,l,c,s,n,body⟩:=by
 intro b a5 w F h J;let ⟨R,A⟩:=eX (fI ah ⟨1,l,c,s,n,body⟩)
 rw[A];unfold fI at A;dsimp only at A;obtain⟨S,U,-⟩:=h.parts;let ⟨m,W⟩:=eX (ah s)
 have N:=eq s w J.1;rw[W]at A N;have X:=O (EQ h (EQ F J.2));let ⟨H,K⟩:=eX (body.length)
 rw[K]at A;have Z:=O K;have E:=O A;clear A W h F J K;go_in;go_wp2_with fail;apply N.mono;rintro e w1 ⟨rfl,j⟩;let ⟨h,F,a4⟩:=X
 have C:=h.below j;have D:=F.below j;clear N S U h F X;let ⟨S,U,p4,a,cap,Y,G⟩:=C.parts
 rw[Z.o]at Y;cases m
 .have g:R=false:=by rw[<-E.o];simp
  subst g;clear C D G;go_wp2;go_ret;exact⟨z,j⟩
 rcases bq H 0 with M|M
 .have a0:=M;have a3:0<H:=by omega
  have a1:(0:Int)< (H:Int):=by omega
  have g:R=false:=by rw[<-E.o];simp[a0]
  subst g;clear C D G;go_wp2;go_ret;exact⟨z,j⟩
 subst M;by_cases V: -2147483647<=n
 .by_cases Q:n<=2147483647
  .skip;have g:R=true:=by rw[<-E.o];simp[V,Q]
   subst g;clear C D G;go_wp2;go_ret;exact⟨z,j⟩
  .have a2:=dv Q;have g:R=false:=by rw[<-E.o];simp[Q]
   subst g;clear C D G;go_wp2;go_ret;exact⟨z,j⟩
 .skip;have g:R=false:=by rw[<-E.o];simp[V]
  subst g;clear C D G;go_wp2;go_ret;exact⟨z,j⟩
theorem Bi{l c:Int}{n:Int}{body:List St}:os ⟨2,l,c,s,n,body⟩:=by
 intro b a5 w F h J;let ⟨R,A⟩:=eX (fI ah ⟨2,l,c,s,n,body⟩)
 rw[A];unfold fI at A;dsimp only at A;obtain⟨S,U,-⟩:=h.parts;let ⟨m,W⟩:=eX (ah s)
 have N:=eq s w J.1;rw[W]at A N;have X:=O (EQ h (EQ F J.2));let ⟨H,K⟩:=eX (body.length)
 rw[K]at A;have Z:=O K;have E:=O A;clear A W h F J K;go_in;go_wp2_with fail;apply N.mono;rintro e w1 ⟨rfl,j⟩;let ⟨h,F,a4⟩:=X
 have C:=h.below j;have D:=F.below j;clear N S U h F X;let ⟨S,U,p4,a,cap,Y,G⟩:=C.parts
 rw[Z.o]at Y;cases m
 .have g:R=false:=by rw[<-E.o];simp
  subst g;clear C D G;go_wp2;go_ret;exact⟨z,j⟩
 rcases bq H 0 with M|M
 .have a0:=M;have a3:0<H:=by omega
  have a1:(0:Int)< (H:Int):=by omega
  have g:R=false:=by rw[<-E.o];simp[a0]
  subst g;clear C D G;go_wp2;go_ret;exact⟨z,j⟩
 subst M;by_cases V:0<=n
 .by_cases Q:n<=2147483647
  .skip;have g:R=true:=by rw[<-E.o];simp[V,Q]
   subst g;clear C D G;go_wp2;go_ret;exact⟨z,j⟩
  .have a2:=dv Q;have g:R=false:=by rw[<-E.o];simp[Q]
   subst g;clear C D G;go_wp2;go_ret;exact⟨z,j⟩
 .skip;have g:R=false:=by rw[<-E.o];simp[V]
  subst g;clear C D G;go_wp2;go_ret;exact⟨z,j⟩
theorem BA{l c:Int}{n:Int}{body:List St}:os ⟨3,l,c,s,n,body⟩:=by
 intro b a4 w D h K;let ⟨R,j⟩:=eX (fI ah ⟨3,l,c,s,n,body⟩)
 rw[j];unfold fI at j;dsimp only at j;obtain⟨S,U,-⟩:=h.parts;let ⟨m,V⟩:=eX (ah s)
 have Q:=eq s w K.1;rw[V]at j Q;have W:=O (EQ h (EQ D K.2));let ⟨G,M⟩:=eX (body.length)
 rw[M]at j;have Y:=O M;have H:=O j;clear j V h D K M;go_in;go_wp2_with fail;apply Q.mono;rintro e w1 ⟨rfl,A⟩;let ⟨h,D,a2⟩:=W
 have C:=h.below A;have E:=D.below A;clear Q S U h D W;let ⟨S,U,p4,a,cap,X,J⟩:=C.parts
 rw[Y.o]at X;cases m
 .have g:R=false:=by rw[<-H.o];simp
  subst g;clear C E J;go_wp2;go_ret;exact⟨z,A⟩
 rcases bq G 0 with N|N
 .have Z:=N;have a1:0<G:=by omega
  have a0:(0:Int)< (G:Int):=by omega
  have g:R=false:=by rw[<-H.o];simp[Z]
  subst g;clear C E J;go_wp2;go_ret;exact⟨z,A⟩
 subst N;rcases bq n 0 with F|F
 .have a3:(n==0)=false:=by simpa using F
  have g:R=false:=by rw[<-H.o];simp[F]
  subst g;clear C E J;go_wp2;go_ret;exact⟨z,A⟩
 subst F;have g:R=true:=by rw[<-H.o];simp
 subst g;clear C E J;go_wp2;go_ret;exact⟨z,A⟩
theorem Cl{l c:Int}{n:Int}{body:List St}:os ⟨4,l,c,s,n,body⟩:=by
 intro b a4 w D h K;let ⟨R,j⟩:=eX (fI ah ⟨4,l,c,s,n,body⟩)
 rw[j];unfold fI at j;dsimp only at j;obtain⟨S,U,-⟩:=h.parts;let ⟨m,V⟩:=eX (ah s)
 have Q:=eq s w K.1;rw[V]at j Q;have W:=O (EQ h (EQ D K.2));let ⟨G,M⟩:=eX (body.length)
 rw[M]at j;have Y:=O M;have H:=O j;clear j V h D K M;go_in;go_wp2_with fail;apply Q.mono;rintro e w1 ⟨rfl,A⟩;let ⟨h,D,a2⟩:=W
 have C:=h.below A;have E:=D.below A;clear Q S U h D W;let ⟨S,U,p4,a,cap,X,J⟩:=C.parts
 rw[Y.o]at X;cases m
 .have g:R=false:=by rw[<-H.o];simp
  subst g;clear C E J;go_wp2;go_ret;exact⟨z,A⟩
 rcases bq G 0 with N|N
 .have Z:=N;have a1:0<G:=by omega
  have a0:(0:Int)< (G:Int):=by omega
  have g:R=false:=by rw[<-H.o];simp[Z]
  subst g;clear C E J;go_wp2;go_ret;exact⟨z,A⟩
 subst N;rcases bq n 0 with F|F
 .have a3:(n==0)=false:=by simpa using F
  have g:R=false:=by rw[<-H.o];simp[F]
  subst g;clear C E J;go_wp2;go_ret;exact⟨z,A⟩
 subst F;have g:R=true:=by rw[<-H.o];simp
 subst g;clear C E J;go_wp2;go_ret;exact⟨z,A⟩
theorem BO{l c:Int}{n:Int}{body:List St}:os ⟨5,l,c,s,n,body⟩:=by
 intro b a5 w F h J;let ⟨R,A⟩:=eX (fI ah ⟨5,l,c,s,n,body⟩)
 rw[A];unfold fI at A;dsimp only at A;obtain⟨S,U,-⟩:=h.parts;let ⟨m,W⟩:=eX (ah s)
 have N:=eq s w J.1;rw[W]at A N;have X:=O (EQ h (EQ F J.2));let ⟨H,K⟩:=eX (body.length)
 rw[K]at A;have Z:=O K;have E:=O A;clear A W h F J K;go_in;go_wp2_with fail;apply N.mono;rintro e w1 ⟨rfl,j⟩;let ⟨h,F,a4⟩:=X
 have C:=h.below j;have D:=F.below j;clear N S U h F X;let ⟨S,U,p4,a,cap,Y,G⟩:=C.parts
 rw[Z.o]at Y;cases m
 .have g:R=false:=by rw[<-E.o];simp
  subst g;clear C D G;go_wp2;go_ret;exact⟨z,j⟩
 rcases bq H 0 with M|M
 .have a0:=M;have a3:0<H:=by omega
  have a1:(0:Int)< (H:Int):=by omega
  have g:R=false:=by rw[<-E.o];simp[a0]
  subst g;clear C D G;go_wp2;go_ret;exact⟨z,j⟩
 subst M;by_cases V:0<=n
 .by_cases Q:n<=2147483647
  .skip;have g:R=true:=by rw[<-E.o];simp[V,Q]
   subst g;clear C D G;go_wp2;go_ret;exact⟨z,j⟩
  .have a2:=dv Q;have g:R=false:=by rw[<-E.o];simp[Q]
   subst g;clear C D G;go_wp2;go_ret;exact⟨z,j⟩
 .skip;have g:R=false:=by rw[<-E.o];simp[V]
  subst g;clear C D G;go_wp2;go_ret;exact⟨z,j⟩
theorem Bw{l c:Int}{n:Int}{body:List St}:os ⟨6,l,c,s,n,body⟩:=by
 intro b a3 w A h J;let ⟨R,j⟩:=eX (fI ah ⟨6,l,c,s,n,body⟩)
 rw[j];unfold fI at j;dsimp only at j;obtain⟨S,V,-⟩:=h.parts;let ⟨m,Y⟩:=eX (ah s)
 have N:=eq s w J.1;rw[Y]at j N;have Z:=O (EQ h (EQ A J.2));let ⟨nB,K⟩:=eX (body.length)
 rw[K]at j;have U:=O K;have G:=O j;clear j Y h A J K;go_in;go_wp2_with fail;apply N.mono;rintro e w1 ⟨rfl,g⟩;let ⟨h,A,X⟩:=Z
 have F:=h.below g;have C:=A.below g;clear N S V h A Z;let ⟨S,V,p4,a,cap,p5,H⟩:=F.parts
 rw[U.o]at p5;cases m
 .have Q:R=false:=by rw[<-G.o];simp
  subst Q;clear F C H;go_wp2;go_ret;exact⟨z,g⟩
 rcases bq n 0 with D|D
 .have a2:(n==0)=false:=by simpa using D
  have Q:R=false:=by rw[<-G.o];simp[D]
  subst Q;clear F C H;go_wp2;go_ret;exact⟨z,g⟩
 subst D;let ⟨mb,M⟩:=eX (bB ah body 1)
 have E:=yC 24 1 (by decide) body a cap w1 C H X;rw[M,U.o]at E;have e1:((1:Nat):Int)=1:=z;rw[e1]at E;have a1:R=mb:=by rw[<-G.o,M];simp
 subst a1;clear F C H M G e1 X;go_wp2_with fail;apply E.mono;rintro e w2 ⟨rfl,W⟩;have a0:=g.trans (W.mono g.size);clear E W g;go_wp2;go_ret;exact⟨z,a0⟩
theorem sA{k l c:Int}{n:Int}{body:List St}(X:k≠1)(V:k≠2)(h3:k≠3)(W:k≠4)(a5:k≠5)(F:k≠6):os ⟨k,l,c,s,n,body⟩:=by
 intro b a4 w C h H;let ⟨R,g⟩:=eX (fI ah ⟨k,l,c,s,n,body⟩)
 rw[g];unfold fI at g;dsimp only at g;obtain⟨S,Y,-⟩:=h.parts;let ⟨m,Z⟩:=eX (ah s)
 have M:=eq s w H.1;rw[Z]at g M;have U:=O (EQ h (EQ C H.2));let ⟨D,J⟩:=eX (body.length)
 rw[J]at g;have HN:=O J;have N:=O g;clear g Z h C H J;have k6:(k !=6)=true:=by simpa using F
 have e1:(k==1)=false:=by simpa using X
 have e2:(k==2)=false:=by simpa using V
 have e3:(k==3)=false:=by simpa using h3
 have e4:(k==4)=false:=by simpa using W
 have e5:(k==5)=false:=by simpa using a5
 have e6:(k==6)=false:=by simpa using F
 go_in;go_wp2_with fail;apply M.mono;rintro e w1 ⟨rfl,j⟩;let ⟨h,C,a3⟩:=U
 have E:=h.below j;have G:=C.below j;clear M S Y h C U;let ⟨S,Y,p4,a,cap,p5,Q⟩:=E.parts
 rw[HN.o]at p5;cases m
 .have A:R=false:=by rw[<-N.o];simp
  subst A;clear E G Q;go_wp2;go_ret;exact⟨z,j⟩
 rcases bq D 0 with K|K
 .have a0:=K;have a2:0<D:=by omega
  have a1:(0:Int)< (D:Int):=by omega
  have A:R=false:=by rw[<-N.o];simp[F,a0]
  subst A;clear E G Q;go_wp2;go_ret;exact⟨z,j⟩
 subst K;have A:R=false:=by rw[<-N.o];simp[X,V,h3,W,a5,F]
 subst A;clear E G Q;go_wp2;go_ret;exact⟨z,j⟩
theorem nH(d:De):os d:=by
 let ⟨k,l,c,s,n,body⟩:=d
 by_cases A:k=1
 .subst A;exact BK
 by_cases w:k=2
 .subst w;exact Bi
 by_cases j:k=3
 .subst j;exact BA
 by_cases g:k=4
 .subst g;exact Cl
 by_cases D:k=5
 .subst D;exact BO
 by_cases C:k=6
 .subst C;exact Bw
 exact sA A w j g D C
theorem qI{nm:ByteArray->Bool}{l:List De}(h:i<l.length):co nm (l.drop i)=(fI nm (l.getD i default)&&co nm (l.drop (i+1))):=by unfold co;rw[List.drop_eq_getElem_cons h,List.all_cons];simp[FD,h]
theorem lP(l:List De)(a:Option Addr)(cap:Nat)(w:Fk)(S:aF l.length cap)(a3:oA w)(h:cQ (fun _=>True) w a l)(Z:∀d∈l,d.nb):
  Jq prog 34 #[.slice a l.length cap] w fun e w'=>e= .returned (I (if co ah l=true then 0 else 2))/\bL w w':=by
 let ⟨R,A⟩:=eX (co ah (l.drop 0))
 rw[show co ah l=R from A];let ⟨g,Q⟩:=eX (l.length)
 rw[Q]at S ⊢;have K:=O Q;have E:=O A;have HB:=O Z;have C:=O (EQ (FB w.1.size w) (EQ h a3));obtain⟨v,H⟩:∃v:Int,(if R=true then 0 else 2)=v:=⟨_,z⟩;rw[H];have X:=O H;clear Q A Z h a3 H;go_in;go_wp2;go_loopg [6] g (fun x iv wr=>∃i:Nat,i<=g/\x=g-i/\iv=I i/\Hid (bL w wr/\cQ (fun _=>True) wr a l/\oA wr)/\Hid (co ah (l.drop i)=R));case atStart=>exact⟨0,FX _,z,z,C,E⟩
 case round=>
  clear C E;obtain⟨i,hi,rfl,rfl,C,E⟩:=hrel;let ⟨J,D,F⟩:=C
  by_cases U:i<g
  .have a7:(i:Int)< (g:Int):=by omega
   have a9:(0:Int)<=(i:Int):=by omega
   have b4:(i:Int)+1<=9223372036854775807:=by have D:=S.1;have h2:=S.2;omega
   have A:=E.o;rw[qI (by rw[K.o];exact U)]at A;obtain⟨b2,a5,cs,rfl,-,Y,a4⟩:=D i (by rw[K.o];exact U);have a0:l.getD i default∈l:=by rw[FD,FC (by rw[K.o];exact U)];exact List.getElem_mem _
   have M:=nH (l.getD i default) b2 (a5+i*6) wr F ⟨cs,fun j v H=>Y j v H,a4⟩ (HB _ a0);let ⟨m,hm⟩:=eX (fI ah (l.getD i default))
   rw[hm]at M A;have N:=O A;clear Y a4 hm A E a0;go_wp2_with fail;apply M.mono;rintro e w2 ⟨rfl,G⟩;have W:=J.trans (G.mono J.size);cases m
   .have a2:R=false:=N.symm;have V:v=2:=by rw[<-X.o,a2];rfl
    subst V;clear C M D J G F a2 N;go_wp2;go_ret;exact⟨z,W⟩
   .have a6:Hid (co ah (l.drop (i+1))=R):=O N;have a8:=O (EQ W (EQ (cQ.below D G) (F.below G)));clear C M D J G W N F;go_wp2;go_roundg (g- (i+1));case measure=>omega
    case rel=>exact⟨i+1,by omega,z,z,a8,a6⟩
  .obtain rfl:i=g:=by omega
   have a7:¬ (i:Int)< (i:Int):=by omega
   have a1:R=true:=by rw[<-E.o,Gw (by rw[K.o];exact FL _)];rfl
   have V:v=0:=by rw[<-X.o,a1];rfl
   subst V;clear D C F a1;go_wp2;go_ret;exact⟨z,J⟩
theorem fB(s:ByteArray)(w:Fk)(a4:s.size<=9223372036854775807):Jq prog 43 #[.string s] w fun e w'=>e= .returned (.bool (ah s))/\bL w w':=by
 by_cases M:s.size=0
 .have a3:(s.size:Int)<1:=by omega
  rw[show ah s=false by unfold ah;rw[dv (by omega)];rfl];clear M;go_in;go_wp2;go_ret;exact⟨z,FB _ _⟩
 .have j:0<s.size:=by omega
  have a3:¬ (s.size:Int)<1:=by omega
  by_cases C:s.size<=16
  .have a2:¬ (16:Int)< (s.size:Int):=by omega
   have a5:(0:Int)< (s.size:Int):=by omega
   have W:=bI j;let ⟨c,Q⟩:=eX (aO s 0)
   rw[Q]at W;let ⟨q,E⟩:=eX (bw c)
   let ⟨g,K⟩:=eX (dZ s.data.toList)
   let ⟨R,D⟩:=eX (ah s)
   rw[D];have Z:R=(q&& (s.data.toList.all aH&&!g)):=by rw[<-D];unfold ah;rw[eP j,eP C,Q,E,K];rfl
   have A:=O Z;have cl:=gN c w;rw[E]at cl;have H:=hS s w;rw[K]at H;clear D Z Q E M K;go_in;go_wp2_with fail;apply cl.mono;rintro e w' ⟨rfl,rfl⟩;cases q
   .obtain rfl:R=false:=A;go_wp2;go_ret;exact⟨z,FB _ _⟩
   .clear cl W;go_wp2_with fail;apply H.mono;rintro e w1 ⟨rfl,G⟩;clear H;cases g
    .go_wp2;go_loopw [3] (fun i wr=>∃k:Nat,k<=s.size/\i=I k/\w1=wr/\Hid ((s.data.toList.drop k).all aH=R)) (fun i _=>s.size- (intOf i).toNat);case atStart=>exact⟨0,by omega,z,z,O (by rw[A.o];simp)⟩
     case round=>
      obtain⟨k,hk,rfl,rfl,V⟩:=hrel;by_cases a0:k<s.size
      .have hz:(k:Int)< (s.size:Int):=by omega
       have a1:=bI a0;let ⟨d,hd⟩:=eX (aO s k)
       have F:=dp a0;rw[hd]at a1 F;let ⟨X,N⟩:=eX (bw d)
       let ⟨q2,U⟩:=eX (aK d)
       have c1:=gN d w1;have c2:=ff d w1;rw[N]at c1;rw[U]at c2;have Y:((X||q2)&& (s.data.toList.drop (k+1)).all aH)=R:=by rw[<-V.o,F,List.all_cons];unfold aH;rw[N,U]
       have S:=O Y;clear N U hd F Y;go_wp2_with fail;apply c1.mono;rintro e w' ⟨rfl,rfl⟩;cases X
       .go_wp2_with fail;apply c2.mono;rintro e w' ⟨rfl,rfl⟩;cases q2
        .obtain rfl:R=false:=by rw[<-S.o];rfl
         go_wp2;go_ret;exact⟨z,G⟩
        .have J:=O (show (s.data.toList.drop (k+1)).all aH=R by rw[<-S.o];rfl);go_wp2;go_roundw;case rel=>exact⟨k+1,by omega,by go_num,trivial,J⟩
         case measure=>simp[intOf];omega
       .have J:=O (show (s.data.toList.drop (k+1)).all aH=R by rw[<-S.o];rfl);go_wp2;go_roundw;case rel=>exact⟨k+1,by omega,by go_num,trivial,J⟩
        case measure=>simp[intOf];omega
      .obtain rfl:k=s.size:=by omega
       obtain rfl:R=true:=by rw[<-V.o,Gw (by rw[ci];exact FL _)];rfl
       go_wp2;go_ret;exact⟨z,G⟩
    .obtain rfl:R=false:=by rw[A.o];simp
     go_wp2;go_ret;exact⟨z,G⟩
  .have a2:(16:Int)< (s.size:Int):=by omega
   rw[show ah s=false by unfold ah;rw[eP j,dv C];rfl];clear M C j;go_in;go_wp2;go_ret;exact⟨z,FB _ _⟩
def ml(d:Nat):Prop:=∀ (x:Ex) (cs:List Fr) (w:Fk),x.nb->ExL (fun _=>True) w cs x->Jq prog 122 #[.agg cs.toArray,.int .i64 (d:Int)] w fun e w'=>e= .returned (.bool (de ah x d))/\FM w.1.size w w'
theorem ej{z ar:Nat}{ok:Bool}{k n:Int}{sl:Int}{lo:Bool}{cap:Nat}{args:List Ex}(hd:d<=24)(b9:ar<=2)(ih:ml d)(M:bL w W)(K:ak W z 58 [I k,I n,.string s,I sl,.bool lo,I p0,.slice a args.length cap])(a2:dT W a args)(b7:aF args.length cap)(a0:Ex.DJ args)(hU:l2.length=96:=by rfl):
  FR prog (Jp 4 (f122.body.getD .skip)) (Gb prog f122 (fun e w'=>e= .returned (.bool (ok&& (decide (args.length=ar)&&di ah args d)))/\bL w w')) ⟨(v0::I ((d+1:Nat):Int)::Pt z::v1::v2::I ar:: .bool ok::l2).toArray,[]⟩ W:=by
 revert l2;apply aN;iterate 96 intro _
 change FR _ _ _ _ _;let ⟨a5,a7,a8⟩:=gf
 let ⟨g,S⟩:=eX (args.length)
 let ⟨R,C⟩:=eX (di ah (args.drop 0) d)
 rw[show di ah args d=R from C];rw[S]at K b7 ⊢;have N:=O S;have E:=O C;have A:=O (EQ M (EQ K a2));have b6:=O a0;have D:=K.cell 6;simp only[FH,FE]at D;clear S C K a2 a0;cases ok
 .rw[HD];conv in (Jp _ _)=>whnf
  clear A D;go_wp2;go_ret;exact⟨rfl,M⟩
 rw[Gx];rcases bq g ar with Z|Z
 .rw[dv Z,HD];conv in (Jp _ _)=>whnf
  have c8:¬ (g:Int)=(ar:Int):=by omega
  clear A;go_wp2;go_ret;exact⟨rfl,M⟩
 subst Z;rw[eP rfl,Gx];conv in (Jp _ _)=>whnf
 clear M;go_wp2;clear D;go_loopg [7] g (fun x iv wr=>∃i:Nat,i<=g/\x=g-i/\iv=I i/\Hid (bL w wr/\ak wr z 58 [I k,I n,.string s,I sl,.bool lo,I p0,.slice a g cap]/\dT wr a args)/\Hid (di ah (args.drop i) d=R));case atStart=>exact⟨0,FX _,rfl,rfl,A,E⟩
 case round=>
  clear A E;obtain⟨i,hi,rfl,rfl,A,E⟩:=hrel;let ⟨G,H,J⟩:=A
  have D:=H.cell 6;simp only[FH,FE]at D;by_cases X:i<g
  .have b8:(i:Int)< (g:Int):=by omega
   have d0:(0:Int)<=(i:Int):=by omega
   have d1:(i:Int)+1<=9223372036854775807:=by omega
   obtain⟨b2,a9,cs,rfl,hr,V⟩:=J.at (j:=i) (by rw[N.o];exact X);have a1:=Ex.DM b6 (j:=i) (by rw[N.o];exact X);have Q:=ih (args.getD i aT) cs wr a1 V;have hl:=V.cells.1;have c9:(((d+1:Nat):Int)-1)=(d:Int):=by omega
   have C:=E.o;rw[lw (by rw[N.o];exact X)]at C;let ⟨m,hm⟩:=eX (de ah (args.getD i aT) d)
   rw[hm]at Q C;have U:=O C;have b5:=O hr;have HL:=O hl;clear V a1 hr hl hm C E;go_wp2_with (with_reducible refine l0 58 ?_;refine Gn rfl 58 (.tmp 97) rfl b2 (a9+i*7) rfl cs a5 b5.o a7 a8 (by rw[HL.o];exact bC) ?_);apply Q.mono;rintro e w2 ⟨rfl,F⟩;have Y:=G.trans (F.mono G.size);cases m
   .have a3:R=false:=U.symm;subst a3;clear A Q D J H G F;go_wp2;go_ret;exact⟨rfl,Y⟩
   .have b4:Hid (di ah (args.drop (i+1)) d=R):=O U;have a4:=O (EQ Y (EQ (H.below F) (J.below F)));clear A Q D J H G F Y U;go_wp2;go_roundg (g- (i+1));case measure=>omega
    case rel=>exact⟨i+1,by omega,rfl,rfl,a4,b4⟩
  .obtain rfl:i=g:=by omega
   have b8:¬ (i:Int)< (i:Int):=by omega
   have a6:R=true:=by rw[<-E.o,Gw (by rw[N.o];exact FL _)];rfl
   subst a6;clear J H A D;go_wp2;go_ret;exact⟨rfl,G⟩
theorem Bz{n:Int}{sl:Int}{lo:Bool}{cap:Nat}{args:List Ex}(hd:d<=24)(Y:ml d)(a3:dT w a args)(a0:aF args.length cap)(hs:s.size<=9223372036854775807)(W:Ex.DJ args):
  Jq prog 122 #[.agg #[I 1,I n,.string s,I sl,.bool lo,I p0,.slice a args.length cap],I ((d+1:Nat):Int)] w fun e w'=>e= .returned (.bool (de ah (.mk 1 n s sl lo p0 args) (d+1)))/\FM w.1.size w w':=by
 obtain⟨R,D⟩:=eX (de ah (.mk 1 n s sl lo p0 args) (d+1));rw[D];rw[db]at D;have a8:¬ ((d+1:Nat):Int)<1:=by omega
 have Z:FM w.1.size w (w.alloc (.cells #[I 1,I n,.string s,I sl,.bool lo,I p0,.slice a args.length cap] 58)):=(FB _ w).alloc (FL _) _;have a2:=ak.new w 58 [I 1,I n,.string s,I sl,.bool lo,I p0,.slice a args.length cap];have a1:=a3.below Z;have E:=O Z;have C:=O (EQ a2 a1);clear Z a2 a1 a3;go_enter func122,ntmps122;refine wk fun j g=>?_;go_wp2;apply g;clear g j;obtain⟨z,F⟩:=eX w.1.size;rw[F]at C;generalize w.alloc (.cells #[I 1,I n,.string s,I sl,.bool lo,I p0,.slice a args.length cap] 58)=H at *;rw[F];have c0:=C.1.cell 0;have c1:=C.1.cell 1;have c2:=C.1.cell 2;have c5:=C.1.cell 5;simp only[FH,FE]at c0 c1 c2 c5;rcases bq s aq with M|M
 .have X:R=false:=by rw[<-D];simp[M]
  subst X;have a7:¬s.toList=[]:=fun e=>M (cG (e.trans bc.symm));have b4:s.toList.isEmpty=false:=by rw[eA];exact dv M
  clear D;go_wp2;go_ret;exact⟨rfl,F▸E.o⟩
 subst M;have a6:aq.toList=[]:=bc;have a5:aq.toList.isEmpty=true:=by rw[bc];rfl
 rcases bq p0 0 with U|U
 .have X:R=false:=by rw[<-D];simp[U]
  subst X;have a9:(p0 !=0)=true:=by simpa using U
  clear D;go_wp2;go_ret;exact⟨rfl,F▸E.o⟩
 subst U;have G:=O D;clear D;have a4:(0<=n/\n<=2147483647)∨¬0<=n∨(0<=n/\¬n<=2147483647):=by omega
 rcases a4 with ⟨S,V⟩|S|⟨S,V⟩
 .skip;have Q:R=(true&& (decide (args.length=0)&&di ah args d)):=by rw[<-G.o];simp[bs,dR,S,V]
  subst Q;clear G;refine wk fun j g=>?_;go_wp2;apply g;clear g j;refine wk fun j g=>?_;go_wp2;apply g;clear g j;refine wk fun j g=>?_;go_wp2_with fail;apply g;clear g j;have A:=FB H.1.size H;have J:=C.1.below A;have K:=C.2.below A;have N:=E.trans (A.mono E.size);subst F;exact ej (ok:=true) (ar:=0) hd (by decide) Y N J K a0 W
 .skip;have Q:R=(false&& (decide (args.length=0)&&di ah args d)):=by rw[<-G.o];simp[bs,dR,S]
  subst Q;clear G;refine wk fun j g=>?_;go_wp2;apply g;clear g j;refine wk fun j g=>?_;go_wp2;apply g;clear g j;refine wk fun j g=>?_;go_wp2_with fail;apply g;clear g j;have A:=FB H.1.size H;have J:=C.1.below A;have K:=C.2.below A;have N:=E.trans (A.mono E.size);subst F;exact ej (ok:=false) (ar:=0) hd (by decide) Y N J K a0 W
 .skip;have Q:R=(false&& (decide (args.length=0)&&di ah args d)):=by rw[<-G.o];simp[bs,dR,S,V]
  subst Q;clear G;have g3:2147483647<n:=by omega
  have g4:decide (n<=2147483647)=false:=dv V;refine wk fun j g=>?_;go_wp2;apply g;clear g j;refine wk fun j g=>?_;go_wp2;apply g;clear g j;refine wk fun j g=>?_;go_wp2_with fail;apply g;clear g j;have A:=FB H.1.size H;have J:=C.1.below A;have K:=C.2.below A;have N:=E.trans (A.mono E.size);subst F;exact ej (ok:=false) (ar:=0) hd (by decide) Y N J K a0 W
theorem BM{n:Int}{sl:Int}{lo:Bool}{cap:Nat}{args:List Ex}(hd:d<=24)(Y:ml d)(V:dT w a args)(a4:aF args.length cap)(hs:s.size<=9223372036854775807)(W:Ex.DJ args):
  Jq prog 122 #[.agg #[I 2,I n,.string s,I sl,.bool lo,I p0,.slice a args.length cap],I ((d+1:Nat):Int)] w fun e w'=>e= .returned (.bool (de ah (.mk 2 n s sl lo p0 args) (d+1)))/\FM w.1.size w w':=by
 obtain⟨R,j⟩:=eX (de ah (.mk 2 n s sl lo p0 args) (d+1));rw[j];rw[db]at j;have a6:¬ ((d+1:Nat):Int)<1:=by omega
 have K:FM w.1.size w (w.alloc (.cells #[I 2,I n,.string s,I sl,.bool lo,I p0,.slice a args.length cap] 58)):=(FB _ w).alloc (FL _) _;have S:=ak.new w 58 [I 2,I n,.string s,I sl,.bool lo,I p0,.slice a args.length cap];have N:=V.below K;have E:=O K;have C:=O (EQ S N);clear K S N V;go_enter func122,ntmps122;refine wk fun A g=>?_;go_wp2;apply g;clear g A;obtain⟨z,D⟩:=eX w.1.size;rw[D]at C;generalize w.alloc (.cells #[I 2,I n,.string s,I sl,.bool lo,I p0,.slice a args.length cap] 58)=V0 at *;rw[D];have c0:=C.1.cell 0;have c1:=C.1.cell 1;have c2:=C.1.cell 2;have c5:=C.1.cell 5;simp only[FH,FE]at c0 c1 c2 c5;rcases bq n 0 with G|G
 .have H:R=false:=by rw[<-j];simp[G]
  subst H;have a5:(n !=0)=true:=by simpa using G
  clear j;go_wp2;go_ret;exact⟨rfl,D▸E.o⟩
 subst G;rcases bq p0 0 with F|F
 .have H:R=false:=by rw[<-j];simp[F]
  subst H;have a7:(p0 !=0)=true:=by simpa using F
  clear j;go_wp2;go_ret;exact⟨rfl,D▸E.o⟩
 subst F;have U:=O j;clear j;have a1:R=(ah s&& (decide (args.length=0)&&di ah args d)):=by rw[<-U.o];simp[bs,dR]
 subst a1;clear U;have M:=fun a3=>fB s a3 hs;refine wk fun A g=>?_;go_wp2;apply g;clear g A;refine wk fun A g=>?_;go_wp2;apply g;clear g A;refine wk fun A g=>?_;go_wp2_with fail;apply (M _).mono;rintro e V1 ⟨rfl,Q⟩;have a2:=O Q;clear Q M;go_wp2_with fail;apply g;clear g A;have J:=a2.o;have X:=C.1.below J;have Z:=C.2.below J;have a0:=E.trans (J.mono E.size);subst D;exact ej (ok:=ah s) (ar:=0) hd (by decide) Y a0 X Z a4 W
theorem Bu{n:Int}{sl:Int}{lo:Bool}{cap:Nat}{args:List Ex}(hd:d<=24)(Y:ml d)(V:dT w a args)(a4:aF args.length cap)(hs:s.size<=9223372036854775807)(W:Ex.DJ args):
  Jq prog 122 #[.agg #[I 3,I n,.string s,I sl,.bool lo,I p0,.slice a args.length cap],I ((d+1:Nat):Int)] w fun e w'=>e= .returned (.bool (de ah (.mk 3 n s sl lo p0 args) (d+1)))/\FM w.1.size w w':=by
 obtain⟨R,j⟩:=eX (de ah (.mk 3 n s sl lo p0 args) (d+1));rw[j];rw[db]at j;have a6:¬ ((d+1:Nat):Int)<1:=by omega
 have K:FM w.1.size w (w.alloc (.cells #[I 3,I n,.string s,I sl,.bool lo,I p0,.slice a args.length cap] 58)):=(FB _ w).alloc (FL _) _;have S:=ak.new w 58 [I 3,I n,.string s,I sl,.bool lo,I p0,.slice a args.length cap];have N:=V.below K;have E:=O K;have C:=O (EQ S N);clear K S N V;go_enter func122,ntmps122;refine wk fun A g=>?_;go_wp2;apply g;clear g A;obtain⟨z,D⟩:=eX w.1.size;rw[D]at C;generalize w.alloc (.cells #[I 3,I n,.string s,I sl,.bool lo,I p0,.slice a args.length cap] 58)=V0 at *;rw[D];have c0:=C.1.cell 0;have c1:=C.1.cell 1;have c2:=C.1.cell 2;have c5:=C.1.cell 5;simp only[FH,FE]at c0 c1 c2 c5;rcases bq n 0 with G|G
 .have H:R=false:=by rw[<-j];simp[G]
  subst H;have a5:(n !=0)=true:=by simpa using G
  clear j;go_wp2;go_ret;exact⟨rfl,D▸E.o⟩
 subst G;rcases bq p0 0 with F|F
 .have H:R=false:=by rw[<-j];simp[F]
  subst H;have a7:(p0 !=0)=true:=by simpa using F
  clear j;go_wp2;go_ret;exact⟨rfl,D▸E.o⟩
 subst F;have U:=O j;clear j;have a1:R=(ah s&& (decide (args.length=1)&&di ah args d)):=by rw[<-U.o];simp[bs,dR]
 subst a1;clear U;have M:=fun a3=>fB s a3 hs;refine wk fun A g=>?_;go_wp2;apply g;clear g A;refine wk fun A g=>?_;go_wp2;apply g;clear g A;refine wk fun A g=>?_;go_wp2_with fail;apply (M _).mono;rintro e V1 ⟨rfl,Q⟩;have a2:=O Q;clear Q M;go_wp2_with fail;apply g;clear g A;have J:=a2.o;have X:=C.1.below J;have Z:=C.2.below J;have a0:=E.trans (J.mono E.size);subst D;exact ej (ok:=ah s) (ar:=1) hd (by decide) Y a0 X Z a4 W
theorem BG{n:Int}{sl:Int}{lo:Bool}{cap:Nat}{args:List Ex}(hd:d<=24)(Y:ml d)(U:dT w a args)(a2:aF args.length cap)(hs:s.size<=9223372036854775807)(W:Ex.DJ args):
  Jq prog 122 #[.agg #[I 4,I n,.string s,I sl,.bool lo,I p0,.slice a args.length cap],I ((d+1:Nat):Int)] w fun e w'=>e= .returned (.bool (de ah (.mk 4 n s sl lo p0 args) (d+1)))/\FM w.1.size w w':=by
 obtain⟨R,j⟩:=eX (de ah (.mk 4 n s sl lo p0 args) (d+1));rw[j];rw[db]at j;have a7:¬ ((d+1:Nat):Int)<1:=by omega
 have M:FM w.1.size w (w.alloc (.cells #[I 4,I n,.string s,I sl,.bool lo,I p0,.slice a args.length cap] 58)):=(FB _ w).alloc (FL _) _;have Q:=ak.new w 58 [I 4,I n,.string s,I sl,.bool lo,I p0,.slice a args.length cap];have N:=U.below M;have G:=O M;have C:=O (EQ Q N);clear M Q N U;go_enter func122,ntmps122;refine wk fun A g=>?_;go_wp2;apply g;clear g A;obtain⟨z,D⟩:=eX w.1.size;rw[D]at C;generalize w.alloc (.cells #[I 4,I n,.string s,I sl,.bool lo,I p0,.slice a args.length cap] 58)=V at *;rw[D];have c0:=C.1.cell 0;have c1:=C.1.cell 1;have c2:=C.1.cell 2;have c5:=C.1.cell 5;simp only[FH,FE]at c0 c1 c2 c5;rcases bq n 0 with J|J
 .have E:R=false:=by rw[<-j];simp[J]
  subst E;have a6:(n !=0)=true:=by simpa using J
  clear j;go_wp2;go_ret;exact⟨rfl,D▸G.o⟩
 subst J;rcases bq s aq with F|F
 .have E:R=false:=by rw[<-j];simp[F]
  subst E;have a5:¬s.toList=[]:=fun e=>F (cG (e.trans bc.symm));have a9:s.toList.isEmpty=false:=by rw[eA];exact dv F
  clear j;go_wp2;go_ret;exact⟨rfl,D▸G.o⟩
 subst F;have a4:aq.toList=[]:=bc;have a3:aq.toList.isEmpty=true:=by rw[bc];rfl
 rcases bq p0 0 with H|H
 .have E:R=false:=by rw[<-j];simp[H]
  subst E;have a8:(p0 !=0)=true:=by simpa using H
  clear j;go_wp2;go_ret;exact⟨rfl,D▸G.o⟩
 subst H;have S:=O j;clear j;have a1:R=(true&& (decide (args.length=1)&&di ah args d)):=by rw[<-S.o];simp[bs,dR]
 subst a1;clear S;refine wk fun A g=>?_;go_wp2;apply g;clear g A;refine wk fun A g=>?_;go_wp2;apply g;clear g A;refine wk fun A g=>?_;go_wp2_with fail;apply g;clear g A;have K:=FB V.1.size V;have X:=C.1.below K;have Z:=C.2.below K;have a0:=G.trans (K.mono G.size);subst D;exact ej (ok:=true) (ar:=1) hd (by decide) Y a0 X Z a2 W
theorem Cg{n:Int}{sl:Int}{lo:Bool}{cap:Nat}{args:List Ex}(hd:d<=24)(Y:ml d)(U:dT w a args)(a2:aF args.length cap)(hs:s.size<=9223372036854775807)(W:Ex.DJ args):
  Jq prog 122 #[.agg #[I 5,I n,.string s,I sl,.bool lo,I p0,.slice a args.length cap],I ((d+1:Nat):Int)] w fun e w'=>e= .returned (.bool (de ah (.mk 5 n s sl lo p0 args) (d+1)))/\FM w.1.size w w':=by
 obtain⟨R,j⟩:=eX (de ah (.mk 5 n s sl lo p0 args) (d+1));rw[j];rw[db]at j;have a7:¬ ((d+1:Nat):Int)<1:=by omega
 have M:FM w.1.size w (w.alloc (.cells #[I 5,I n,.string s,I sl,.bool lo,I p0,.slice a args.length cap] 58)):=(FB _ w).alloc (FL _) _;have Q:=ak.new w 58 [I 5,I n,.string s,I sl,.bool lo,I p0,.slice a args.length cap];have N:=U.below M;have G:=O M;have C:=O (EQ Q N);clear M Q N U;go_enter func122,ntmps122;refine wk fun A g=>?_;go_wp2;apply g;clear g A;obtain⟨z,D⟩:=eX w.1.size;rw[D]at C;generalize w.alloc (.cells #[I 5,I n,.string s,I sl,.bool lo,I p0,.slice a args.length cap] 58)=V at *;rw[D];have c0:=C.1.cell 0;have c1:=C.1.cell 1;have c2:=C.1.cell 2;have c5:=C.1.cell 5;simp only[FH,FE]at c0 c1 c2 c5;rcases bq n 0 with J|J
 .have E:R=false:=by rw[<-j];simp[J]
  subst E;have a6:(n !=0)=true:=by simpa using J
  clear j;go_wp2;go_ret;exact⟨rfl,D▸G.o⟩
 subst J;rcases bq s aq with F|F
 .have E:R=false:=by rw[<-j];simp[F]
  subst E;have a5:¬s.toList=[]:=fun e=>F (cG (e.trans bc.symm));have a9:s.toList.isEmpty=false:=by rw[eA];exact dv F
  clear j;go_wp2;go_ret;exact⟨rfl,D▸G.o⟩
 subst F;have a4:aq.toList=[]:=bc;have a3:aq.toList.isEmpty=true:=by rw[bc];rfl
 rcases bq p0 0 with H|H
 .have E:R=false:=by rw[<-j];simp[H]
  subst E;have a8:(p0 !=0)=true:=by simpa using H
  clear j;go_wp2;go_ret;exact⟨rfl,D▸G.o⟩
 subst H;have S:=O j;clear j;have a1:R=(true&& (decide (args.length=1)&&di ah args d)):=by rw[<-S.o];simp[bs,dR]
 subst a1;clear S;refine wk fun A g=>?_;go_wp2;apply g;clear g A;refine wk fun A g=>?_;go_wp2;apply g;clear g A;refine wk fun A g=>?_;go_wp2_with fail;apply g;clear g A;have K:=FB V.1.size V;have X:=C.1.below K;have Z:=C.2.below K;have a0:=G.trans (K.mono G.size);subst D;exact ej (ok:=true) (ar:=1) hd (by decide) Y a0 X Z a2 W
theorem BT{n:Int}{sl:Int}{lo:Bool}{cap:Nat}{args:List Ex}(hd:d<=24)(Y:ml d)(a3:dT w a args)(a0:aF args.length cap)(hs:s.size<=9223372036854775807)(W:Ex.DJ args):
  Jq prog 122 #[.agg #[I 6,I n,.string s,I sl,.bool lo,I p0,.slice a args.length cap],I ((d+1:Nat):Int)] w fun e w'=>e= .returned (.bool (de ah (.mk 6 n s sl lo p0 args) (d+1)))/\FM w.1.size w w':=by
 obtain⟨R,E⟩:=eX (de ah (.mk 6 n s sl lo p0 args) (d+1));rw[E];rw[db]at E;have a9:¬ ((d+1:Nat):Int)<1:=by omega
 have Z:FM w.1.size w (w.alloc (.cells #[I 6,I n,.string s,I sl,.bool lo,I p0,.slice a args.length cap] 58)):=(FB _ w).alloc (FL _) _;have a2:=ak.new w 58 [I 6,I n,.string s,I sl,.bool lo,I p0,.slice a args.length cap];have a1:=a3.below Z;have F:=O Z;have C:=O (EQ a2 a1);clear Z a2 a1 a3;go_enter func122,ntmps122;refine wk fun j g=>?_;go_wp2;apply g;clear g j;obtain⟨z,G⟩:=eX w.1.size;rw[G]at C;generalize w.alloc (.cells #[I 6,I n,.string s,I sl,.bool lo,I p0,.slice a args.length cap] 58)=D at *;rw[G];have c0:=C.1.cell 0;have c1:=C.1.cell 1;have c2:=C.1.cell 2;have c5:=C.1.cell 5;simp only[FH,FE]at c0 c1 c2 c5;rcases bq n 0 with U|U
 .have X:R=false:=by rw[<-E];simp[U]
  subst X;have a8:(n !=0)=true:=by simpa using U
  clear E;go_wp2;go_ret;exact⟨rfl,G▸F.o⟩
 subst U;rcases bq s aq with N|N
 .have X:R=false:=by rw[<-E];simp[N]
  subst X;have a7:¬s.toList=[]:=fun e=>N (cG (e.trans bc.symm));have b4:s.toList.isEmpty=false:=by rw[eA];exact dv N
  clear E;go_wp2;go_ret;exact⟨rfl,G▸F.o⟩
 subst N;have a6:aq.toList=[]:=bc;have a5:aq.toList.isEmpty=true:=by rw[bc];rfl
 have H:=O E;clear E;have a4:(1<=p0/\p0<=11)∨¬1<=p0∨(1<=p0/\¬p0<=11):=by omega
 rcases a4 with ⟨J,V⟩|J|⟨J,V⟩
 .skip;have S:R=(true&& (decide (args.length=2)&&di ah args d)):=by rw[<-H.o];simp[bs,dR,J,V]
  subst S;clear H;refine wk fun j g=>?_;go_wp2;apply g;clear g j;refine wk fun j g=>?_;go_wp2;apply g;clear g j;refine wk fun j g=>?_;go_wp2;go_quiet (fail);rename_i nq;apply g;clear g;have A:=(⟨rfl,rfl,rfl,FL _,fun _ _=>rfl⟩:FM D.1.size D (D.drewN nq));have K:=C.1.below A;have M:=C.2.below A;have Q:=F.trans (A.mono F.size);subst G;exact ej (ok:=true) (ar:=2) hd (by decide) Y Q K M a0 W
 .skip;have S:R=(false&& (decide (args.length=2)&&di ah args d)):=by rw[<-H.o];simp[bs,dR,J]
  subst S;clear H;have g3:p0<1:=by omega
  have g4:decide (1<=p0)=false:=dv J;refine wk fun j g=>?_;go_wp2;apply g;clear g j;refine wk fun j g=>?_;go_wp2;apply g;clear g j;refine wk fun j g=>?_;go_wp2;go_quiet (fail);rename_i nq;apply g;clear g;have A:=(⟨rfl,rfl,rfl,FL _,fun _ _=>rfl⟩:FM D.1.size D (D.drewN nq));have K:=C.1.below A;have M:=C.2.below A;have Q:=F.trans (A.mono F.size);subst G;exact ej (ok:=false) (ar:=2) hd (by decide) Y Q K M a0 W
 .skip;have S:R=(false&& (decide (args.length=2)&&di ah args d)):=by rw[<-H.o];simp[bs,dR,J,V]
  subst S;clear H;have g3:11<p0:=by omega
  have g4:decide (p0<=11)=false:=dv V;refine wk fun j g=>?_;go_wp2;apply g;clear g j;refine wk fun j g=>?_;go_wp2;apply g;clear g j;refine wk fun j g=>?_;go_wp2;go_quiet (fail);rename_i nq;apply g;clear g;have A:=(⟨rfl,rfl,rfl,FL _,fun _ _=>rfl⟩:FM D.1.size D (D.drewN nq));have K:=C.1.below A;have M:=C.2.below A;have Q:=F.trans (A.mono F.size);subst G;exact ej (ok:=false) (ar:=2) hd (by decide) Y Q K M a0 W
theorem ti{k n:Int}{sl:Int}{lo:Bool}{cap:Nat}{args:List Ex}(hd:d<=24)(_:ml d)(K:k≠1)(V:k≠2)(M:k≠3)(W:k≠4)(X:k≠5)(J:k≠6)(U:dT w a args)(_:aF args.length cap)(hs:s.size<=9223372036854775807)(_:Ex.DJ args):
  Jq prog 122 #[.agg #[I k,I n,.string s,I sl,.bool lo,I p0,.slice a args.length cap],I ((d+1:Nat):Int)] w fun e w'=>e= .returned (.bool (de ah (.mk k n s sl lo p0 args) (d+1)))/\FM w.1.size w w':=by
 obtain⟨R,g⟩:=eX (de ah (.mk k n s sl lo p0 args) (d+1));rw[g];rw[db]at g;have a5:¬ ((d+1:Nat):Int)<1:=by omega
 have H:FM w.1.size w (w.alloc (.cells #[I k,I n,.string s,I sl,.bool lo,I p0,.slice a args.length cap] 58)):=(FB _ w).alloc (FL _) _;have S:=ak.new w 58 [I k,I n,.string s,I sl,.bool lo,I p0,.slice a args.length cap];have N:=U.below H;have E:=O H;have C:=O (EQ S N);clear H S N U;have e1:(k==1)=false:=by simpa using K
 have e2:(k==2)=false:=by simpa using V
 have e3:(k==3)=false:=by simpa using M
 have e4:(k==4)=false:=by simpa using W
 have e5:(k==5)=false:=by simpa using X
 have e6:(k==6)=false:=by simpa using J
 have k1:(k !=1)=true:=by simpa using K
 have k2:(k !=2)=true:=by simpa using V
 have k3:(k !=3)=true:=by simpa using M
 have k6:(k !=6)=true:=by simpa using J
 go_enter func122,ntmps122;refine wk fun Z Q=>?_;go_wp2;apply Q;clear Q Z;obtain⟨z,A⟩:=eX w.1.size;rw[A]at C;generalize w.alloc (.cells #[I k,I n,.string s,I sl,.bool lo,I p0,.slice a args.length cap] 58)=V0 at *;rw[A];have c0:=C.1.cell 0;have c1:=C.1.cell 1;have c2:=C.1.cell 2;have c5:=C.1.cell 5;simp only[FH,FE]at c0 c1 c2 c5;rcases bq n 0 with G|G
 .have j:R=false:=by rw[<-g];simp[G]<;>omega
  subst j;have a4:(n !=0)=true:=by simpa using G
  clear g;go_wp2;go_ret;exact⟨rfl,A▸E.o⟩
 subst G;rcases bq s aq with D|D
 .have j:R=false:=by rw[<-g];simp[D]<;>omega
  subst j;have a3:¬s.toList=[]:=fun e=>D (cG (e.trans bc.symm));have a8:s.toList.isEmpty=false:=by rw[eA];exact dv D
  clear g;go_wp2;go_ret;exact⟨rfl,A▸E.o⟩
 subst D;have a1:aq.toList=[]:=bc;have a0:aq.toList.isEmpty=true:=by rw[bc];rfl
 rcases bq p0 0 with F|F
 .have j:R=false:=by rw[<-g];simp[F]<;>omega
  subst j;have a6:(p0 !=0)=true:=by simpa using F
  clear g;go_wp2;go_ret;exact⟨rfl,A▸E.o⟩
 subst F;have Y:=O g;clear g;have j:R=false:=by rw[<-Y.o];simp[bs,K,J];omega
 subst j;go_wp2;go_ret;exact⟨rfl,A▸E.o⟩
theorem iI:∀ (d:Nat),d<=25->ml d
 |0,_=>by
  intro x cs w g D
  let ⟨k,n,s,sl,lo,E,args⟩:=x
  have N:de ah (.mk k n s sl lo E args) 0=false:=by rw[db];simp
  rw[N]
  unfold ExL at D
  obtain⟨a,cap,rfl,-,-⟩:=D
  have Q:=O ((FB w.1.size w).alloc rl (.cells #[I k,I n,.string s,I sl,.bool lo,I E,.slice a args.length cap] 58))
  go_in
  go_wp2
  go_ret
  exact⟨z,Q⟩
 |d+1,hd=>by
  have C:=iI d (by omega)
  intro x cs w g D
  let ⟨k,n,s,sl,lo,E,args⟩:=x
  unfold Ex.nb at g
  unfold ExL at D
  obtain⟨a,cap,rfl,j,A⟩:=D
  by_cases H:k=1
  .subst H;exact Bz (by omega) C A j g.1 g.2
  by_cases J:k=2
  .subst J;exact BM (by omega) C A j g.1 g.2
  by_cases F:k=3
  .subst F;exact Bu (by omega) C A j g.1 g.2
  by_cases K:k=4
  .subst K;exact BG (by omega) C A j g.1 g.2
  by_cases G:k=5
  .subst G;exact Cg (by omega) C A j g.1 g.2
  by_cases M:k=6
  .subst M;exact BT (by omega) C A j g.1 g.2
  .exact ti (by omega) C H J F K G M A j g.1 g.2
end Go.Proofs.YtgppcdfgdaggjaaGreatDoor
