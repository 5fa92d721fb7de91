/- Texts laid together. No condition but what each law says. -/
import Derived.Test.YtgppcdfgdaggjaaGreatDoorN10
import Derived.Deep.Cut
set_option maxRecDepth 100000
set_option maxHeartbeats 4000000
namespace Go.Proofs.YtgppcdfgdaggjaaGreatDoor
open Go.RowKit Go.Maps Go.Proofs.Tryz
open Go renaming World→Fk,Value→Fr,Ending→GP,Calls→Jq,FuncId→Ig,run_underlying→Hg
open Go.World renaming block_lt_of_cell?→FF,cell?→FI,frozen?→HQ,alloc_heap_new→Df,grownBy_alloc→Gz,cell?_setCell_far→Ih
open _root_.Array renaming getElem?_eq_some_iff→FT
open Go.RowKit.Below renaming refl→FB,heap_setCell→FK
open Nat renaming le_refl→FL,le_trans→FU
open And renaming intro→EQ
open Go.Instr renaming field→IU,mapUpdate→HJ,findNow→Hc,lookup→Hx
open Ne renaming symm→Gp
open List renaming range→GU,mem_cons→FQ,not_mem_nil→FO
open Bool renaming false_ne_true→FY
open Go.MapKept renaming IsKey→GQ,run_checkKey→GR,run_findKey→GW,run_getObj_map→GK,run_setObj_map→HN
variable {U V W w w0:Fk}{a a0:Option Addr}{b c g i j k n:Nat}{A:Act}{s s6 t:ByteArray}{u0 u1 u2 u3 v0 v1 v2 v3 v4 v5 v6 v7 v8 v9:Fr}{l2:List Fr}{T0:List St}
theorem oz.EB{w':Fk}{B:Nat}{l:List Wd}(h:oz w a l)(H:Below B w w')(D:w.1.size<=B):oz w' a l:=by
 intro i K;let ⟨b,G,C,j,E,F,A,J⟩:=h i K
 have M:=FF w _ j;have g:∀o,w'.cell? (ad b o)=w.cell? (ad b o):=fun o=>H.cell (p:=(ad b o)) (Nat.lt_of_lt_of_le M D);exact⟨b,G,C,(g _).trans j,(g _).trans E,(g _).trans F,(g _).trans A,(g _).trans J⟩
theorem oz.kp{w':Fk}{l:List Wd}(h:oz w a l)(G:Kp w w' b b)(H:∀g o,a=some (ad g o)->g≠b):oz w' a l:=by
 intro i N;let ⟨g,C,A,D,J,K,F,M⟩:=h i N
 have Q:=FF w _ D;have E:=H g C A;have j:∀o,w'.cell? (ad g o)=w.cell? (ad g o):=fun o=>by have:=G.block g Q E E;simp[FI,this]
 exact⟨g,C,A,(j _).trans D,(j _).trans J,(j _).trans K,(j _).trans F,(j _).trans M⟩
structure bp where
 a:Option Addr
 cap:Nat
 T:List Wd
 en:Int×Int
 kv:Fr
variable {S:bp}
structure Rw (w:Fk) (b:Nat) (S:bp) (k:Nat):Prop where
 hd:w.1[b]? =some (.cells #[.slice S.a S.T.length S.cap,.int .i64 (k:Int),.int .i64 S.en.1,.int .i64 S.en.2,S.kv] 89 (0,0))
 Ec:oz w S.a S.T
 ne:∀g o,S.a=some ⟨g,o,none⟩->g≠b
 le:k<=S.T.length
 mx:S.T.length<=1000000
theorem Rw.lt(h:Rw w b S k):b<w.1.size:=(FT.1 h.hd).1
theorem Rw.below{w':Fk}(h:Rw w b S k)(g:bL w w'):Rw w' b S k:=
 ⟨(g.block b h.lt).trans h.hd,h.Ec.EB g rl,h.ne,h.le,h.mx⟩
theorem Rw.fin(h:Rw w b S k)(g:Rw W b S j)(C:Kp w V b b)(A:V.1[b]? =W.1[b]?):Rw V b S j:=
 ⟨A.trans g.hd,h.Ec.kp C h.ne,g.ne,g.le,g.mx⟩
def bo(T:List Wd)(en:Int×Int)(k:Nat):Wd:=if k<T.length then T.getD k default else ⟨0,aq,0,en.1,en.2⟩
theorem pV(T:List Wd)(en:Int×Int)(k:Nat):(bo T en k).kind=ba T k:=by unfold bo ba;split<;>rfl
theorem Rw.alloc(h:Rw w b S k)(o:Obj):Rw (w.alloc o) b S k:=h.below ((FB _ w).alloc rl o)
theorem Rw.drewN(h:Rw w b S k)(n:Nat):Rw (w.drewN n) b S k:=⟨h.hd,h.Ec,h.ne,h.le,h.mx⟩
theorem Rw.c0(h:Rw w b S k):w.cell? (ad b 0)=some (.slice S.a S.T.length S.cap):=by simp[FI,h.hd]
theorem Rw.c1(h:Rw w b S k):w.cell? (ad b 1)=some (I k):=by simp[FI,h.hd]
theorem Rw.c2(h:Rw w b S k):w.cell? (ad b 2)=some (I S.en.1):=by simp[FI,h.hd]
theorem Rw.c3(h:Rw w b S k):w.cell? (ad b 3)=some (I S.en.2):=by simp[FI,h.hd]
theorem Rw.c4(h:Rw w b S k):w.cell? (ad b 4)=some S.kv:=by simp[FI,h.hd]
theorem Rw.frozen(h:Rw w b S k)(j:Nat):w.frozen? (ad b j)=false:=by simp[HQ,h.hd]
theorem cc{w':Fk}{B:Nat}(h:Below B w w')(n:Nat):Below B w (w'.drewN n):=⟨h.os,h.tape,h.output,h.size,h.block⟩
theorem bi{w':Fk}(h:bL w w'):Kp w w' b b:=Kp.below h
theorem mh{g:Func}{R:GP->Fk->Prop}{s:Tmp}{kind num:Int}{p:Int×Int}(h:Tk W b kind t num p)(w:g.results= #[.cell s 142])
  (J:A.tmps.getD s undef=Pt b)(hd:A.defers=[])(E:R (.returned (.agg #[I kind,.string t,I num,I p.1,I p.2])) W):bodyPost prog g R .ret A W:=by
 have G:=h.c0;have j:=h.c1;have C:=h.c2;have H:=h.c3;have F:=h.c4;have D:A.tmps[s]?.getD undef=Pt b:=by rw[<-J];simp
 refine bodyPost_ret (v:= .agg #[I kind,.string t,I num,I p.1,I p.2]) ?_ hd E;simp[results,w,go_sem,D,G,j,C,H,F]
theorem fd(h:Rw w b S k):
  Jq prog 112 #[Pt b] w fun e w'=>e= .returned (bo S.T S.en k).val/\Below w.1.size w w':=by
 have a8:=h.le;have a9:=h.mx;go_enter func112,ntmps112;go_wp2;have U:Below w.1.size w (w.alloc (.cells #[I 0,.string ⟨#[]⟩,I 0,I 0,I 0] 142)):=(FB _ w).alloc (FL _) _;have J:=h.below U;have j:Tk (w.alloc (.cells #[I 0,.string ⟨#[]⟩,I 0,I 0,I 0] 142)) w.1.size 0 ⟨#[]⟩ 0 (0,0):=Df _ _;generalize w.alloc (.cells #[I 0,.string ⟨#[]⟩,I 0,I 0,I 0] 142)=W at *;obtain⟨z,Y⟩:=eX w.1.size;rw[Y]at U j ⊢;have HZ:=O Y;clear Y
 have fin:∀ (n:Nat) (M:Int) (C:ByteArray) (n2 x y:Int),Tk (((((((W.drewN n).setCell ⟨z,0,none⟩ (I M)).setCell ⟨z,1,none⟩ (.string C)).setCell ⟨z,2,none⟩ (I n2)).setCell ⟨z,3,none⟩ (I x)).setCell ⟨z,4,none⟩ (I y))) z M C n2 (x,y)/\Below z w ((((((W.drewN n).setCell ⟨z,0,none⟩ (I M)).setCell ⟨z,1,none⟩ (.string C)).setCell (ad z 2) (I n2)).setCell (ad z 3) (I x)).setCell (ad z 4) (I y)):=by intro n M C n2 x y;refine⟨(j.drewN n).Es M C n2 x y,?_⟩;exact(((((cc U n).setCell (p:=⟨z,0,none⟩) (FL _) _).setCell (p:=⟨z,1,none⟩) (FL _) _).setCell (p:=⟨z,2,none⟩) (FL _) _).setCell (p:=⟨z,3,none⟩) (FL _) _).setCell (p:=⟨z,4,none⟩) (FL _) _
 have R:=O fin;have c0:=J.c0;have c1:=J.c1;have c2:=J.c2;have c3:=J.c3;have c4:=J.c4;have hW:=J.Ec;obtain⟨a,cap,T,en,kv⟩:=S;dsimp only at *;have E:=j.frozen;have f0:=E 0;have f1:=E 1;have f2:=E 2;have f3:=E 3;have f4:=E 4;clear fin U J E;by_cases hk:k=T.length
 .subst hk;go_quiet (fail);rename_i nq;have d2:(W.drewN nq).cell? ⟨b,2,none⟩=_:=c2;have d3:(W.drewN nq).cell? ⟨b,3,none⟩=_:=c3;have a7:(W.drewN nq).cell? ⟨z,0,none⟩=_:=j.c0;have t1:(W.drewN nq).cell? ⟨z,1,none⟩=_:=j.c1;have C:(W.drewN nq).cell? ⟨z,2,none⟩=_:=j.c2;have t3:(W.drewN nq).cell? ⟨z,3,none⟩=_:=j.c3;have t4:(W.drewN nq).cell? ⟨z,4,none⟩=_:=j.c4;have g0:(W.drewN nq).frozen? ⟨z,0,none⟩=false:=f0;have g1:(W.drewN nq).frozen? ⟨z,1,none⟩=false:=f1;have g2:(W.drewN nq).frozen? ⟨z,2,none⟩=false:=f2;have g3:(W.drewN nq).frozen? ⟨z,3,none⟩=false:=f3;have g4:(W.drewN nq).frozen? ⟨z,4,none⟩=false:=f4;go_wp2_with fail
  refine mh (R.o nq 0 ⟨#[]⟩ 0 en.1 en.2).1 rfl rfl rfl ⟨?_,by rw[HZ.o];exact(R.o nq 0 ⟨#[]⟩ 0 en.1 en.2).2⟩;unfold bo;rw[am (Nat.lt_irrefl _)];rfl
 .have a1:¬ ((k:Int)=(T.length:Int)):=by omega
  have Z:k<T.length:=by omega
  have b4:(0:Int)<=(k:Int):=by omega
  have a6:(k:Int)< (T.length:Int):=by omega
  obtain⟨D,F,rfl,N,Q,H,K,G⟩:=hW k Z;obtain⟨A,a2⟩:=eX (T.getD k default);rw[a2]at N Q H K G;have HN:=O (show bo T en k=A by unfold bo;rw[aD Z];exact a2);obtain⟨V,hN⟩:=eX T.length;rw[hN]at c0 a1 a6 Z a9;clear a2 hN a8;go_quiet (fail);rename_i nq;have a3:((k:Int)==(V:Int))=false:=by simpa using a1
  rw[a3];obtain⟨g,X⟩:=eX (W.drewN nq);have a5:(g.cell? (ad b 0)=some (.slice (some (ad D F)) V cap)/\g.cell? (ad b 1)=some (I k))/\(g.cell? (ad D (F+k*5))=some (I A.kind)/\g.cell? (ad D (F+k*5+1))=some (.string A.text)/\g.cell? (ad D (F+k*5+2))=some (I A.num)/\g.cell? (ad D (F+k*5+3))=some (I A.line)/\g.cell? (ad D (F+k*5+4))=some (I A.Dm))/\Tk g z 0 ⟨#[]⟩ 0 (0,0):=by rw[<-X];exact⟨⟨c0,c1⟩,⟨N,Q,H,K,G⟩,j⟩
  have a0:=R (nq+1);rw[show W.drewN (nq+1)=g.drew by rw[<-X];rfl]at a0;have a4:=O a0;rw[X];clear X a0 c0 c1 c2 c3 c4 N Q H K G j f0 f1 f2 f3 f4 hW R a3 hk a1 h;let ⟨⟨c0,c1⟩,⟨N,Q,H,K,G⟩,j⟩:=a5
  go_wp2;go_still_tail 10,(by kernel_rfl);change wpList _ _ _ _ _ g.drew;have a7:g.drew.cell? (ad z 0)=_:=j.c0;have t1:g.drew.cell? (ad z 1)=_:=j.c1;have C:g.drew.cell? (ad z 2)=_:=j.c2;have t3:g.drew.cell? (ad z 3)=_:=j.c3;have t4:g.drew.cell? (ad z 4)=_:=j.c4;have g0:g.drew.frozen? (ad z 0)=false:=j.frozen 0;have g1:g.drew.frozen? (ad z 1)=false:=j.frozen 1;have g2:g.drew.frozen? (ad z 2)=false:=j.frozen 2;have g3:g.drew.frozen? (ad z 3)=false:=j.frozen 3;have g4:g.drew.frozen? (ad z 4)=false:=j.frozen 4;clear c0 c1 N Q H K G j;generalize g.drew=b5 at *;go_wp2;refine mh (a4 A.kind A.text A.num A.line A.Dm).1 rfl rfl rfl ⟨?_,by rw[HZ.o];exact(a4 A.kind A.text A.num A.line A.Dm).2⟩;rw[HN.o];rfl
theorem mQ(x y:ByteArray):decide (x=y)=(x.toList==y.toList):=by
 by_cases h:x=y
 .subst h;simp
 .have:¬x.toList=y.toList:=fun e=>h (by
   have g:x.data.toList=y.data.toList:=by simpa [ByteArray.toList_eq]using e
   exact ByteArray.ext (Array.toList_inj.1 g))
  simp[h,this]
theorem nN{T:List Wd}{en:Int×Int}:cr T k s=((decide ((bo T en k).kind=3)||decide ((bo T en k).kind=4))&&decide ((bo T en k).text=s)):=by
 unfold cr bo;by_cases h:k<T.length
 .simp[h]
 .simp[h]
theorem Rw.step(h:Rw w b S k)(g:k<S.T.length):Rw (w.setCell (ad b 1) (I ((k:Int)+1))) b S (k+1):=by have A:=bz (j:=1) h.hd (I ((k:Int)+1));refine⟨?_,h.Ec.kp ((Kp.refl w b b).Dg 1 _) h.ne,h.ne,g,h.mx⟩;rw[A];simp
theorem bD(h:Rw w b S k)(s:ByteArray):
  Jq prog 73 #[Pt b,.string s] w fun e w'=>Kp w w' b b/\e= .returned (.bool (cr S.T k s))/\Rw w' b S (if cr S.T k s=true then k+1 else k):=by
 have a3:=h.mx;have a2:=h.le;let ⟨r,J⟩:=eX (cr S.T k s)
 have Z:r=true->k<S.T.length:=fun e=>cZ S.T (J.trans e);rw[nN (en:=S.en)]at J;have R:=fd h;let ⟨wd,V⟩:=eX (bo S.T S.en k)
 rw[V]at J R;rw[nN (en:=S.en),V,J];let ⟨kd,E,W,K,M⟩:=wd
 let ⟨a4,Q⟩:=eX ((if r=true then k+1 else k))
 have Y:=O Q;rw[Q];go_in;go_wp2_with fail;apply R.mono;rintro e w1 ⟨rfl,H⟩;have a0:=h.below H;simp only[Wd.val];have U:∀x:Int,bL w (w1.alloc (.cells #[I x,.string E,I W,I K,I M] 142)):=fun x=>H.alloc H.size _;have j:=O (fun x=>EQ (U x) (h.below (U x)));have c1:∀x:Int,(w1.alloc (.cells #[I x,.string E,I W,I K,I M] 142)).cell? (ad b 1)=some (I k):=fun x=>by exact(j x).2.c1
 have f1:∀x:Int,(w1.alloc (.cells #[I x,.string E,I W,I K,I M] 142)).frozen? (ad b 1)=false:=fun x=> (j x).2.frozen 1;have a1:=O (show decide (E=s)=(E.toList==s.toList) from mQ E s);have G:∀q:Bool,((decide (kd=3)||decide (kd=4))&& (E.toList==s.toList))=q->r=q/\a4=(if q=true then k+1 else k)/\(q=true->k<S.T.length):=fun q hq=>by have X:=J;rw[a1.o,hq]at X;subst X;exact⟨z,Y.symm,Z⟩
 go_wp2
 .rename_i C A;let ⟨g,D,F⟩:=G false (by simp at A;simp[C,A])
  go_ret;exact⟨bi (j _).1,by subst g;rfl,by rw[D];exact(j _).2⟩
 .rename_i C A;let ⟨g,D,F⟩:=G true (by simp at A;simp[C,A])
  go_ret;exact⟨(bi (j _).1).Dg 1 _,by subst g;rfl,by rw[D,aD rfl];exact(j _).2.step (F z)⟩
 .rename_i N C A;let ⟨g,D,F⟩:=G false (by simp at A;simp[C,A])
  go_ret;exact⟨bi (j _).1,by subst g;rfl,by rw[D];exact(j _).2⟩
 .rename_i N C A;let ⟨g,D,F⟩:=G true (by simp at A;simp[C,A])
  go_ret;exact⟨(bi (j _).1).Dg 1 _,by subst g;rfl,by rw[D,aD rfl];exact(j _).2.step (F z)⟩
 .rename_i C N;let ⟨g,D,F⟩:=G false (by simp[C,N])
  go_ret;exact⟨bi (j _).1,by subst g;rfl,by rw[D];exact(j _).2⟩
def lr(S:bp)(k:Nat):PanicEntry:={v:= .iface 160 (.agg #[.int .i64 (bo S.T S.en k).line,.int .i64 (bo S.T S.en k).Dm]),recovered:=false}
def WP{α:Type}(w:Fk)(b:Nat)(S:bp)(R:Except Nat (α×Nat))(ok:α->GP->Fk->Prop)(e:GP)(w':Fk):Prop:=
 Kp w w' b b/\match R with
  | .ok (x,j)=>ok x e w'/\Rw w' b S j
  | .error j=>e= .panicked [lr S j]
theorem pK(kd:Int)(A:ByteArray)(C j g:Int)(w:Fk):(IU 142 (.agg #[I kd,.string A,I C,I j,I g]) 3).run prog w= .ok (.agg #[I j,I g]) w:=by kernel_rfl
theorem wa(kd:Int)(g:ByteArray)(C A j:Int)(w:Fk):(IU 142 (.agg #[I kd,.string g,I C,I A,I j]) 1).run prog w= .ok (.string g) w:=by kernel_rfl
theorem wN(kd:Int)(A:ByteArray)(g C j:Int)(w:Fk):(IU 142 (.agg #[I kd,.string A,I g,I C,I j]) 2).run prog w= .ok (I g) w:=by kernel_rfl
theorem gI(h:Rw w b S k):
  Jq prog 109 #[Pt b] w fun e w'=>e= .panicked [lr S k]/\bL w w':=by
 have g:=fd h;unfold lr;let ⟨H,E⟩:=eX (bo S.T S.en k)
 rw[E]at g ⊢;let ⟨kd,C,F,A,D⟩:=H
 have G:=pK kd C F A D;go_in;go_wp2_with fail;apply g.mono;rintro e w1 ⟨rfl,j⟩;simp only[Wd.val];go_wp2;exact⟨z,z,j⟩
theorem aX(h:Rw w b S k)(s:ByteArray){R:Except Nat (Unit×Nat)}(j:aU S.T s k=some R):
  Jq prog 69 #[Pt b,.string s] w (WP w b S R fun _ e _=>e= .returned (.tuple #[])):=by
 have D:=bD h s;unfold aU at j;let ⟨r,C⟩:=eX (cr S.T k s)
 rw[C]at D j;go_in;go_wp2_with fail;apply D.mono;rintro e w1 ⟨A,rfl,g⟩;cases r
 .cases j;simp only[Bool.false_eq_true,if_false]at g;go_wp2_with fail;apply (gI g).mono;rintro e w2 ⟨rfl,E⟩;exact⟨z,A.trans (bi E),z⟩
 .cases j;simp only[if_true]at g;go_wp2;go_end0;exact⟨A,z,g⟩
def lE(T:List Wd)(kd:Int)(i:Nat):Except Nat (Wd×Nat):=if ba T i=kd then .ok (T.getD i default,i+1) else .error i
theorem nn(h:Rw w b S k)(q:Int)(hq:q≠0):
  Jq prog 106 #[Pt b,I q] w (WP w b S (lE S.T q k) fun x e _=>e= .returned x.val):=by
 have b9:=h.mx;have b8:=h.le;have hp:=fd (h.alloc (.cells #[I 0,.string ⟨#[]⟩,I 0,I 0,I 0] 142));have a2:=pV S.T S.en k;have Q:ba S.T k=q->bo S.T S.en k=S.T.getD k default/\k<S.T.length:=fun e=>by have G:=cR S.T (by rw[e];exact hq);exact⟨by unfold bo;rw[aD G],G⟩
 let ⟨wd,a7⟩:=eX (bo S.T S.en k)
 rw[a7]at hp a2 Q;clear a7;let ⟨kd,D,J,E,F⟩:=wd
 have HL:=O Q;have HD:=O (show kd=ba S.T k from a2);let ⟨R,hR⟩:=eX (lE S.T q k)
 have HR:=O hR;rw[hR];clear Q a2 hR;go_in;go_wp2_with fail;apply hp.mono;rintro e w1 ⟨rfl,C⟩;simp only[Wd.val];have h0:=h.alloc (.cells #[I 0,.string ⟨#[]⟩,I 0,I 0,I 0] 142);have c9:Tk (w.alloc (.cells #[I 0,.string ⟨#[]⟩,I 0,I 0,I 0] 142)) w.1.size 0 ⟨#[]⟩ 0 (0,0):=Df _ _;have a3:bL w (w.alloc (.cells #[I 0,.string ⟨#[]⟩,I 0,I 0,I 0] 142)):=(FB _ w).alloc rl _;have b6:(w.alloc (.cells #[I 0,.string ⟨#[]⟩,I 0,I 0,I 0] 142)).1.size=w.1.size+1:=by simp
 generalize w.alloc (.cells #[I 0,.string ⟨#[]⟩,I 0,I 0,I 0] 142)=W0 at *;have c8:=h.lt;have G:=h0.below C;have a1:=c9.of (C.block _ c9.lt);have K:=a3.trans (C.mono (by omega));have b7:=C.size;have M:Tk (w1.alloc (.cells #[I kd,.string D,I J,I E,I F] 142)) w1.1.size kd D J (E,F):=Df _ _;have a0:=a1.alloc (.cells #[I kd,.string D,I J,I E,I F] 142);have H:=G.alloc (.cells #[I kd,.string D,I J,I E,I F] 142);have V:=K.alloc K.size (.cells #[I kd,.string D,I J,I E,I F] 142);have HH:=O h;let ⟨z,hz⟩:=eX (w.1.size)
 have b4:w1.1.size≠z:=by omega
 have a9:w1.1.size≠b:=by omega
 have a4:z≠b:=by omega
 have HZ:=O hz;rw[hz]at a1 a0 K V ⊢;by_cases a6:kd=q
 .subst a6;let ⟨a5,Q⟩:=HL HD.symm
  have Z:R= .ok (S.T.getD k default,k+1):=by rw[<-HR.o];unfold lE;rw[aD HD.o.symm]
  rw[<-a5]at Z;subst Z;have X:=H.step Q;have U:=(Kp.below (a:=b) (b:=b) (h:=by unfold bL;rw[hz];exact V)).Dg 1 (I ((k:Int)+1));have c1:=H.c1;have f1:=H.frozen 1;have A:=M.other a9 1 (I ((k:Int)+1));have g:=a0.other a4 1 (I ((k:Int)+1));have y0:=M.c0;have x0:=A.c0;have x1:=A.c1;have x2:=A.c2;have x3:=A.c3;have x4:=A.c4;have b5:=g.c0;have t1:=g.c1;have t2:=g.c2;have t3:=g.c3;have t4:=g.c4;have g0:=g.frozen;have Y:=O (EQ g (EQ X U));clear g X U A M a0 H V a1 G h0 K a3 C c9 hp h a5;go_wp2;let ⟨g,X,U⟩:=Y
  have j:∀ {W:Fk} (t:Nat) (v:Fr),Kp w W b b->Kp w (W.setCell (ad z t) v) b b:=fun t v h=>h.R (by rw[HZ.o];exact FL _) t v;have N:∀ (W:Fk) (t:Nat) (v:Fr),(W.setCell (ad z t) v).1[b]? =W.1[b]? :=fun W t v=>FK W (ad z t) v b (Gp a4);refine mh (g.Es kd D J E F) rfl rfl rfl ⟨?_,?_,?_⟩
  .exact j _ _ (j _ _ (j _ _ (j _ _ (j _ _ U))))
  .rfl
  .apply HH.fin X (j _ _ (j _ _ (j _ _ (j _ _ (j _ _ U)))));rw[N,N,N,N,N]
 .have Z:R= .error k:=by rw[<-HR.o];unfold lE;rw[am (fun e=>a6 (HD.o.trans e))]
  subst Z;have y0:=M.c0;have Y:=O (EQ H V);clear M a0 H V a1 G h0 K a3 C c9 hp h;go_wp2_with fail;apply (gI Y.1).mono;rintro e w2 ⟨rfl,a8⟩;refine⟨rfl,?_,rfl⟩;have:=Y.2;rw[<-HZ.o]at this;exact(bi this).trans (bi a8)
theorem cn(h:Rw w b S k){R:Except Nat (ByteArray×Nat)}(g:aV S.T k=some R):
  Jq prog 64 #[Pt b] w (WP w b S R fun x e _=>e= .returned (.string x)):=by
 have A:=nn h 1 (by decide);unfold lE at A;unfold aV at g;let ⟨q,D⟩:=eX (ba S.T k)
 rw[D]at A g;let ⟨x,E⟩:=eX (S.T.getD k default)
 rw[E]at A g;let ⟨kd,G,K,H,J⟩:=x
 have M:=wa kd G K H J;go_in;go_wp2_with fail;apply A.mono;by_cases j:q=1
 .rw[aD j]at g;cases g;subst j;rintro e w1 ⟨C,rfl,F⟩;simp only[Wd.val];go_wp2;go_ret;exact⟨C,z,F⟩
 .rw[am j]at g;cases g;simp only[am j];rintro e w1 ⟨C,rfl⟩;exact⟨z,C,z⟩
theorem eG(h:Rw w b S k){R:Except Nat (Int×Nat)}(g:bG S.T k=some R):
  Jq prog 113 #[Pt b] w (WP w b S R fun x e _=>e= .returned (I x)):=by
 have A:=nn h 2 (by decide);unfold lE at A;unfold bG at g;let ⟨q,D⟩:=eX (ba S.T k)
 rw[D]at A g;let ⟨x,E⟩:=eX (S.T.getD k default)
 rw[E]at A g;let ⟨kd,G,K,H,J⟩:=x
 have M:=wN kd G K H J;go_in;go_wp2_with fail;apply A.mono;by_cases j:q=2
 .rw[aD j]at g;cases g;subst j;rintro e w1 ⟨C,rfl,F⟩;simp only[Wd.val];go_wp2;go_ret;exact⟨C,z,F⟩
 .rw[am j]at g;cases g;simp only[am j];rintro e w1 ⟨C,rfl⟩;exact⟨z,C,z⟩
def AR(j:Nat):Fr:=if j % 2=0 then .string (hN.getD (j/2) aq) else .int .i64 ((xv.getD (j/2) 0:Nat):Int)
def yS:List Fr:=(GU 24).map AR
def Cq:Array Fr:=yS.toArray
def hR(w:Fk):Prop:=∀j,j<24->w.cell? ⟨0,j,none⟩=some (AR j)
theorem hR.below{w':Fk}(h:hR w)(A:bL w w'):hR w':=fun j g=> (A.cell (p:=(ad 0 j)) (FF w _ (h j g))).trans (h j g)
theorem hR.range(h:hR w):w.rangeAt 0 0 yS:=fun j v g=>by
 have A:j<24:=by
  rcases Nat.lt_or_ge j 24 with h|h
  .exact h
  .rw[List.getElem?_eq_none (by simpa [yS]using h)]at g;cases g
 have C:=h j A;have:yS[j]? =some (AR j):=by simp[yS,List.getElem?_range A]
 rw[this]at g;cases g;rw[Nat.zero_add];exact C
theorem qE(h:k<12)(w:Fk):(Instr.index 223 (.agg Cq) (I k)).run prog w= .ok (.agg #[.string (hN.getD k aq),I ((xv.getD k 0:Nat):Int)]) w:=by
 rcases k with _|_|_|_|_|_|_|_|_|_|_|_|k;all_goals first
  |omega
  |kernel_rfl
theorem wY(g:k<12)(h:∀j,j<k->hN.getD j aq≠s6)(e:hN.getD k aq=s6):gE s6=k:=by
 unfold gE;have:(GU 12).find? (fun o=>decide (hN.getD o aq=s6))=some k:=by rw[List.find?_range_eq_some];exact⟨by simpa using e,by simpa using g,fun j w=>by simpa using h j w⟩
 rw[this];rfl
theorem vt(h:∀j,j<12->hN.getD j aq≠s6):gE s6=0:=by
 unfold gE;have:(GU 12).find? (fun o=>decide (hN.getD o aq=s6))=none:=by rw[List.find?_eq_none];intro j g;have:=h j (by simpa using g);simpa using this
 rw[this];rfl
theorem tU(h:Rw w b S k)(hO:hR w):
  Jq prog 108 #[Pt b] w fun e w'=>e= .returned (.tuple #[I ((cq S.T k:Nat):Int),I ((bm (cq S.T k):Nat):Int)])/\bL w w':=by
 have U:=fd h;have N:=pV S.T S.en k;let ⟨wd,X⟩:=eX (bo S.T S.en k)
 rw[X]at U N;let ⟨kd,g,E,C,D⟩:=wd
 have a7:kd=ba S.T k:=N;obtain⟨o,A⟩:=eX (cq S.T k);have J:o=if kd=4 then gE g else 0:=by
  rw[<-A,a7];unfold cq;split
  .rename_i h4;have h1:=cR S.T (by rw[h4];decide);have:S.T.getD k default=⟨kd,g,E,C,D⟩:=by rw[<-X];unfold bo;rw[aD h1]
   rw[this]
  .rfl
 rw[A];clear A X N a7;go_in;go_wp2_with fail;apply U.mono;rintro e w1 ⟨rfl,G⟩;simp only[Wd.val];have a3:=hO.below G;by_cases V:kd=4
 .subst V;rw[aD rfl]at J;have Z:=O J;clear J;have hT:Tk (w1.alloc (.cells #[I 4,.string g,I E,I C,I D] 142)) w1.1.size 4 g E (C,D):=Df _ _;have K:Below w.1.size w (w1.alloc (.cells #[I 4,.string g,I E,I C,I D] 142)):=G.alloc G.size _;have a0:=a3.below ((FB _ w1).alloc rl (.cells #[I 4,.string g,I E,I C,I D] 142));have hl:=a0.range;have HQ:=O hl;have HE:=O (EQ hT K);clear hT K a0 a3 hO U h G hl;go_upto_region 3 with fail;go_step;refine wpList_load_mid rfl 223 _ rfl 0 0 rfl yS (.array 12 222) HQ underlying223 rfl (by kernel_rfl) ?_;rw[show yS.toArray=Cq from rfl];simp only[Act.put,List.setIfInBounds_toArray,List.set_cons_succ,List.set_cons_zero];clear HQ;go_wp2
  generalize a4:w1.alloc (.cells #[I 4,.string g,I E,I C,I D] 142)=W1 at *;clear a4;generalize w1.1.size=z at *;go_loopw [15] (fun i wr=>∃k:Nat,k<=12/\i=I k/\Hid (∀j,j<k->hN.getD j aq≠g)/\Hid (Tk wr z 4 g E (C,D)/\bL w wr)) (fun i _=>12- (intOf i).toNat);case atStart=>exact⟨0,by omega,rfl,O (fun j hj=>by omega),HE⟩
  case round=>
   obtain⟨k,V,rfl,R,H⟩:=hrel;by_cases a1:k<12
   .have a5:(k:Int)<12:=by omega
    have hx:=fun w=>qE a1 w;let ⟨s,Q⟩:=eX (hN.getD k aq)
    let ⟨r,W⟩:=eX (xv.getD k 0)
    rw[Q,W]at hx;have a8:=O Q;have HR:=O W;have a6:(wr.alloc (.cells #[.string s,I r] 222)).cell? (ad z 1)=some (.string g):=(H.1.alloc _).c1;have Y:=O (EQ (H.1.alloc (.cells #[.string s,I r] 222)) (H.2.alloc H.2.size (.cells #[.string s,I r] 222)));clear Q W;by_cases F:s=g
    .have M:=O F;have hq:(s.toList==g.toList)=true:=by rw[F];simp
     clear F;go_wp2;go_quiet (fail);have A:o=k:=by rw[Z.o];exact wY a1 R (a8.trans M)
     have a2:bm o=r:=by rw[A];exact HR
     have HZ:=O (EQ A a2);clear A a2;go_wp2;go_ret2;exact⟨by rw[HZ.o.2,HZ.o.1];rfl,cc Y.2 _⟩
    .have M:=O F;have hq:(s.toList==g.toList)=false:=by rw[<-mQ];simpa using F
     clear F;go_wp2;go_roundw;case rel=>exact⟨k+1,by omega,by go_num,O (fun j hj=>by
      rcases Nat.lt_or_ge j k with h|h
      .exact R j h
      .obtain rfl:j=k:=by omega
       rw[a8.o];exact M),Y⟩
     case measure=>simp[intOf];omega
   .obtain rfl:k=12:=by omega
    have A:o=0:=by rw[Z.o];exact vt R
    subst A;go_wp2;go_ret2;exact⟨rfl,H.2⟩
 .rw[am V]at J;subst J;have K:Below w.1.size w (w1.alloc (.cells #[I kd,.string g,I E,I C,I D] 142)):=G.alloc G.size _;go_wp2;go_ret2;exact⟨rfl,K⟩
def Xc(w:Fk)(b:Nat)(v0 v1 v2 v3 v4 v5 v6:Fr):Prop:=w.1[b]? =some (.cells #[v0,v1,v2,v3,v4,v5,v6] 58 (0,0))
section
variable {w:Fk} {b:Nat} {v0 v1 v2 v3 v4 v5 v6:Fr}
theorem Xc.lt(h:Xc w b v0 v1 v2 v3 v4 v5 v6):b<w.1.size:=(FT.1 h).1
theorem Xc.c0(h:Xc w b v0 v1 v2 v3 v4 v5 v6):w.cell? (ad b 0)=some v0:=by unfold Xc at h;simp[FI,h]
theorem Xc.c1(h:Xc w b v0 v1 v2 v3 v4 v5 v6):w.cell? (ad b 1)=some v1:=by unfold Xc at h;simp[FI,h]
theorem Xc.c2(h:Xc w b v0 v1 v2 v3 v4 v5 v6):w.cell? (ad b 2)=some v2:=by unfold Xc at h;simp[FI,h]
theorem Xc.c3(h:Xc w b v0 v1 v2 v3 v4 v5 v6):w.cell? (ad b 3)=some v3:=by unfold Xc at h;simp[FI,h]
theorem Xc.c4(h:Xc w b v0 v1 v2 v3 v4 v5 v6):w.cell? (ad b 4)=some v4:=by unfold Xc at h;simp[FI,h]
theorem Xc.c5(h:Xc w b v0 v1 v2 v3 v4 v5 v6):w.cell? (ad b 5)=some v5:=by unfold Xc at h;simp[FI,h]
theorem Xc.c6(h:Xc w b v0 v1 v2 v3 v4 v5 v6):w.cell? (ad b 6)=some v6:=by unfold Xc at h;simp[FI,h]
theorem Xc.al(h:Xc w b v0 v1 v2 v3 v4 v5 v6):w.cell? (ad b 0)=some v0/\w.cell? (ad b 1)=some v1/\w.cell? (ad b 2)=some v2/\w.cell? (ad b 3)=some v3/\w.cell? (ad b 4)=some v4/\w.cell? (ad b 5)=some v5/\w.cell? (ad b 6)=some v6:=⟨h.c0,h.c1,h.c2,h.c3,h.c4,h.c5,h.c6⟩
theorem Xc.frozen(h:Xc w b v0 v1 v2 v3 v4 v5 v6)(k:Nat):w.frozen? (ad b k)=false:=by unfold Xc at h;simp[HQ,h]
theorem Xc.of{w':Fk}(h:Xc w b v0 v1 v2 v3 v4 v5 v6)(g:w'.1[b]? =w.1[b]?):Xc w' b v0 v1 v2 v3 v4 v5 v6:=g.trans h
theorem Xc.alloc(h:Xc w b v0 v1 v2 v3 v4 v5 v6)(o:Obj):Xc (w.alloc o) b v0 v1 v2 v3 v4 v5 v6:=h.of ((Gz w o none).block b h.lt (by simp))
abbrev hm (w:Fk) (b:Nat) (u0 u1 u2 u3 u4 u5 u6:Fr):Fk:=((((((w.setCell ⟨b,0,none⟩ u0).setCell ⟨b,1,none⟩ u1).setCell ⟨b,2,none⟩ u2).setCell ⟨b,3,none⟩ u3).setCell ⟨b,4,none⟩ u4).setCell ⟨b,5,none⟩ u5).setCell ⟨b,6,none⟩ u6
theorem Xc.set(h:Xc w b v0 v1 v2 v3 v4 v5 v6)(A G C E D F g:Fr):Xc (hm w b A G C E D F g) b A G C E D F g:=by have H:=bz (j:=6) (bz (j:=5) (bz (j:=4) (bz (j:=3) (bz (j:=2) (bz (j:=1) (bz (j:=0) h A) G) C) E) D) F) g;unfold Xc;rw[H];simp
end
theorem eb{g:Func}{R:GP->Fk->Prop}{s:Tmp}(h:Xc W b v0 v1 v2 v3 v4 v5 v6)(j:g.results= #[.cell s 58])
  (E:A.tmps.getD s undef=Pt b)(hd:A.defers=[])(w:R (.returned (.agg #[v0,v1,v2,v3,v4,v5,v6])) W):bodyPost prog g R .ret A W:=by
 have K:=h.c0;have F:=h.c1;have G:=h.c2;have M:=h.c3;have D:=h.c4;have H:=h.c5;have C:=h.c6;have J:A.tmps[s]?.getD undef=Pt b:=by rw[<-E];simp
 refine bodyPost_ret (v:= .agg #[v0,v1,v2,v3,v4,v5,v6]) ?_ hd w;simp[results,j,go_sem,J,K,F,G,M,D,H,C]
theorem cP{z:Nat}(h:Kp w W b b)(g:w.1.size<=z)(A G C E D F j:Fr):Kp w (hm W z A G C E D F j) b b:=
 (((((((h.R g 0 A).R g 1 G).R g 2 C).R g 3 E).R g 4 D).R g 5 F).R g 6 j)
theorem bb{z:Nat}(h:b≠z)(j E w C A D g:Fr):(hm W z j E w C A D g).1[b]? =W.1[b]? :=by simp only[hm];rw[FK _ (ad z 6) _ b h,FK _ (ad z 5) _ b h,FK _ (ad z 4) _ b h,FK _ (ad z 3) _ b h,FK _ (ad z 2) _ b h,FK _ (ad z 1) _ b h,FK _ (ad z 0) _ b h]
theorem hR.kp{w':Fk}(h:hR w)(D:Kp w w' b b)(A:b≠0):hR w':=fun j C=>by have g:=h j C;have E:=D.block 0 (FF w _ g) (Gp A) (Gp A);rw[<-g];simp[FI,E]
theorem ExL.kp{w':Fk}{cs:List Fr}{x:Ex}(h:ExL (w0.1.size<=·) w cs x)(j:Kp w w' b b)(D:b<w0.1.size):ExL (w0.1.size<=·) w' cs x:=
 ExL.keep (fun c o v C g=>by have A:=j.block c (FF w _ g) (by omega) (by omega);rw[<-g];simp[FI,A]) h
def kN(w:Fk)(x:Ex)(e:GP)(w':Fk):Prop:=∃cs:List Fr,e= .returned (.agg cs.toArray)/\ExL (w.1.size<=·) w' cs x
def CU(b:Nat)(S:bp)(f:Nat):Prop:=∀ (w:Fk) (k:Nat) (R:Except Nat (Ex×Nat)),Rw w b S k->hR w->pU S.T f k=some R->Jq prog 107 #[.pointer (some ⟨b,0,none⟩)] w (WP w b S R (kN w))
def CP(b:Nat)(S:bp)(f:Nat):Prop:=∀ (w:Fk) (k:Nat) (R:Except Nat (Ex×Nat)),Rw w b S k->hR w->pP S.T f k=some R->Jq prog 144 #[.pointer (some ⟨b,0,none⟩)] w (WP w b S R (kN w))
def CE(b:Nat)(S:bp)(f:Nat):Prop:=∀ (w:Fk) (n k:Nat) (R:Except Nat (Ex×Nat)),n<=7->Rw w b S k->hR w->pE S.T f n k=some R->Jq prog 67 #[.pointer (some ⟨b,0,none⟩),.int .i64 (n:Int)] w (WP w b S R (kN w))
theorem jU{z:Nat}{x:Ex}{cs:List Fr}(R:ExL (V.1.size<=·) W cs x)(S:z<V.1.size)(U:V.1.size<=W.1.size)(N:w.1.size<=V.1.size)(q n:Int)(s:ByteArray)(H A j D J E F:Fr):
  ExL (w.1.size<=·) (hm (W.alloc (.cells cs.toArray 58)) z H A j D J E F) [I q,I n,.string s,I 0,.bool false,I 0,.slice (some (ad W.1.size 0)) 1 1] (.mk q n s 0 false 0 [x]):=by
 have M:W.1.size≠z:=by omega
 unfold ExL;refine⟨some (ad W.1.size 0),1,rfl,⟨rl,by decide⟩,?_⟩;unfold ch;refine⟨⟨W.1.size,0,cs,rfl,by omega,fun t v g=>?_,?_⟩,by unfold ch;trivial⟩
 .have C:(hm (W.alloc (.cells cs.toArray 58)) z H A j D J E F).1[W.1.size]? =some (.cells cs.toArray 58 (0,0)):=(bb M _ _ _ _ _ _ _).trans (Df _ _);simp only[FI,C];simpa using g
 .refine ExL.CQ (fun c G=> (FU N G:w.1.size<=c)) (ExL.keep (fun c o v G g=>?_) R);have Q:=FF W _ g;have K:c≠z:=by have:=G;omega
  have C:(hm (W.alloc (.cells cs.toArray 58)) z H A j D J E F).1[c]? =W.1[c]? :=(bb K _ _ _ _ _ _ _).trans ((Gz W _ none).block c Q (by simp));rw[<-g];simp[FI,C]
theorem po{z:Nat}{x:Ex}{cs:List Fr}(M:ExL (U.1.size<=·) V cs x)(N:z<U.1.size)(K:w.1.size<=U.1.size)(A G C E D F j:Fr):
  ExL (w.1.size<=·) (hm V z A G C E D F j) cs x:=by
 refine ExL.CQ (fun c g=> (FU K g:w.1.size<=c)) (ExL.keep (fun c o v g J=>?_) M);have H:c≠z:=by have:=g;omega
 rw[<-J];simp[FI,bb (W:=V) H A G C E D F j]
theorem pA{f:Nat}(Y:b≠0)(b6:CU b S f)(hP:CP b S f):CU b S (f+1):=by
 intro w k R h Z A;rw[pU]at A;have h0:=h.alloc (.cells #[I 0,I 0,.string ⟨#[]⟩,I 0,.bool false,I 0,.slice none 0 0] 58);have a3:Xc (w.alloc (.cells #[I 0,I 0,.string ⟨#[]⟩,I 0,.bool false,I 0,.slice none 0 0] 58)) w.1.size (I 0) (I 0) (.string ⟨#[]⟩) (I 0) (.bool false) (I 0) (.slice none 0 0):=Df _ _;have a5:Kp w (w.alloc (.cells #[I 0,I 0,.string ⟨#[]⟩,I 0,.bool false,I 0,.slice none 0 0] 58)) b b:=bi ((FB _ w).alloc rl _);have a8:=h.lt;go_in;go_wp2_with fail;generalize w.alloc (.cells #[I 0,I 0,.string ⟨#[]⟩,I 0,.bool false,I 0,.slice none 0 0] 58)=W0 at *;apply (bD h0 eg).mono;rintro e W1 ⟨a4,rfl,U⟩;have Q:=a5.trans a4;have W:=a3.of (a4.block _ a3.lt (by omega) (by omega))
 let ⟨m,X⟩:=eX (cr S.T k eg)
 rw[X]at A U;rw[X];cases m
 .rw[am FY]at A U;go_wp2_with fail;apply (bD U sw).mono;rintro e a2 ⟨a7,rfl,H⟩;have F:=Q.trans a7;have V:=W.of (a7.block _ W.lt (by omega) (by omega));let ⟨m,X⟩:=eX (cr S.T k sw)
  rw[X]at A H;rw[X];cases m
  .rw[am FY]at A H;rcases hx:pP S.T f k with _| (j|⟨x,j⟩)
   .rw[hx]at A;cases A
   .rw[hx]at A;cases A;go_wp2_with fail;apply (hP a2 k _ H (Z.kp F Y) hx).mono;rintro e N ⟨C,rfl⟩;exact⟨rfl,F.trans C,rfl⟩
   .rw[hx]at A;cases A;go_wp2_with fail;apply (hP a2 k _ H (Z.kp F Y) hx).mono;rintro e N ⟨C,⟨cs,rfl,G⟩,D⟩;let ⟨xk,xn,xs,xl,xo,xp,xa⟩:=x
    have M:=G;unfold ExL at G;obtain⟨a,cap,rfl,b4,a0⟩:=G;have E:=F.trans C;have g:=V.of (C.block _ V.lt (by omega) (by omega));let ⟨z,J⟩:=eX (w.1.size)
    have HZ:=O J;have HH:=O h;rw[J]at g a8 ⊢;have a9:=g.c0;have t1:=g.c1;have t2:=g.c2;have t3:=g.c3;have t4:=g.c4;have t5:=g.c5;have t6:=g.c6;have f0:=g.frozen 0;have f1:=g.frozen 1;have f2:=g.frozen 2;have f3:=g.frozen 3;have f4:=g.frozen 4;have f5:=g.frozen 5;have f6:=g.frozen 6;have a1:=F.size;have b5:=V.lt;have HE:=O (EQ g (EQ (po (w:=w) M (z:=z) (by omega) a1) (EQ E D)));go_wp2;let ⟨g,hA,E,D⟩:=HE
    have K:=cP E (z:=z) (by rw[HZ.o];exact FL _);refine eb (g.set _ _ _ _ _ _ _) rfl rfl rfl ⟨K _ _ _ _ _ _ _,⟨_,rfl,hA _ _ _ _ _ _ _⟩,?_⟩;exact HH.fin D (K _ _ _ _ _ _ _) (bb (by omega) _ _ _ _ _ _ _)
  .rw[aD rfl]at A H;rcases hx:pU S.T f (k+1) with _| (j|⟨x,j⟩)
   .rw[hx]at A;cases A
   .rw[hx]at A;cases A;go_wp2_with fail;apply (b6 a2 (k+1) _ H (Z.kp F Y) hx).mono;rintro e N ⟨C,rfl⟩;exact⟨rfl,F.trans C,rfl⟩
   .rw[hx]at A;cases A;go_wp2_with fail;apply (b6 a2 (k+1) _ H (Z.kp F Y) hx).mono;rintro e N ⟨C,⟨cs,rfl,G⟩,D⟩;let ⟨xk,xn,xs,xl,xo,xp,xa⟩:=x
    have M:=G;unfold ExL at G;obtain⟨a,cap,rfl,b4,a0⟩:=G;have E:=F.trans C;have g:=V.of (C.block _ V.lt (by omega) (by omega));let ⟨z,J⟩:=eX (w.1.size)
    have HZ:=O J;have HH:=O h;rw[J]at g a8 ⊢;have a9:=fun o=> (g.alloc o).c0;have t1:=fun o=> (g.alloc o).c1;have t2:=fun o=> (g.alloc o).c2;have t3:=fun o=> (g.alloc o).c3;have t4:=fun o=> (g.alloc o).c4;have t5:=fun o=> (g.alloc o).c5;have t6:=fun o=> (g.alloc o).c6;have f0:=fun o=> (g.alloc o).frozen 0;have f1:=fun o=> (g.alloc o).frozen 1;have f2:=fun o=> (g.alloc o).frozen 2;have f3:=fun o=> (g.alloc o).frozen 3;have f4:=fun o=> (g.alloc o).frozen 4;have f5:=fun o=> (g.alloc o).frozen 5;have f6:=fun o=> (g.alloc o).frozen 6;have a1:=F.size;have b5:=V.lt;have a6:=C.size;have HE:=O (EQ g (EQ (jU (w:=w) M (z:=z) (by omega) a6 a1 5 0 ⟨#[]⟩) (EQ E D)));go_wp2;let ⟨g,hA,E,D⟩:=HE
    have K:=cP (E.alloc (.cells #[I xk,I xn,.string xs,I xl,.bool xo,I xp,.slice a xa.length cap] 58)) (z:=z) (by rw[HZ.o];exact FL _);refine eb ((g.alloc _).set _ _ _ _ _ _ _) rfl rfl rfl ⟨K _ _ _ _ _ _ _,⟨_,rfl,hA _ _ _ _ _ _ _⟩,?_⟩;exact HH.fin D (K _ _ _ _ _ _ _) ((bb (by omega) _ _ _ _ _ _ _).trans ((Gz N _ none).block b D.lt (by simp)))
 .rw[aD rfl]at A U;rcases hx:pU S.T f (k+1) with _| (j|⟨x,j⟩)
  .rw[hx]at A;cases A
  .rw[hx]at A;cases A;go_wp2_with fail;apply (b6 W1 (k+1) _ U (Z.kp Q Y) hx).mono;rintro e N ⟨C,rfl⟩;exact⟨rfl,Q.trans C,rfl⟩
  .rw[hx]at A;cases A;go_wp2_with fail;apply (b6 W1 (k+1) _ U (Z.kp Q Y) hx).mono;rintro e N ⟨C,⟨cs,rfl,G⟩,D⟩;let ⟨xk,xn,xs,xl,xo,xp,xa⟩:=x
   have M:=G;unfold ExL at G;obtain⟨a,cap,rfl,b4,a0⟩:=G;have E:=Q.trans C;have g:=W.of (C.block _ W.lt (by omega) (by omega));let ⟨z,J⟩:=eX (w.1.size)
   have HZ:=O J;have HH:=O h;rw[J]at g a8 ⊢;have a9:=fun o=> (g.alloc o).c0;have t1:=fun o=> (g.alloc o).c1;have t2:=fun o=> (g.alloc o).c2;have t3:=fun o=> (g.alloc o).c3;have t4:=fun o=> (g.alloc o).c4;have t5:=fun o=> (g.alloc o).c5;have t6:=fun o=> (g.alloc o).c6;have f0:=fun o=> (g.alloc o).frozen 0;have f1:=fun o=> (g.alloc o).frozen 1;have f2:=fun o=> (g.alloc o).frozen 2;have f3:=fun o=> (g.alloc o).frozen 3;have f4:=fun o=> (g.alloc o).frozen 4;have f5:=fun o=> (g.alloc o).frozen 5;have f6:=fun o=> (g.alloc o).frozen 6;have a1:=Q.size;have b5:=W.lt;have a6:=C.size;have HE:=O (EQ g (EQ (jU (w:=w) M (z:=z) (by omega) a6 a1 4 0 ⟨#[]⟩) (EQ E D)));go_wp2;let ⟨g,hA,E,D⟩:=HE
   have K:=cP (E.alloc (.cells #[I xk,I xn,.string xs,I xl,.bool xo,I xp,.slice a xa.length cap] 58)) (z:=z) (by rw[HZ.o];exact FL _);refine eb ((g.alloc _).set _ _ _ _ _ _ _) rfl rfl rfl ⟨K _ _ _ _ _ _ _,⟨_,rfl,hA _ _ _ _ _ _ _⟩,?_⟩;exact HH.fin D (K _ _ _ _ _ _ _) ((bb (by omega) _ _ _ _ _ _ _).trans ((Gz N _ none).block b D.lt (by simp)))
theorem wD(kd:Int)(j:ByteArray)(C A g:Int)(w:Fk):(IU 142 (.agg #[I kd,.string j,I C,I A,I g]) 0).run prog w= .ok (I kd) w:=by kernel_rfl
theorem hD{ok:Nat->Prop}(w:Fk)(q n:Int)(s:ByteArray):ExL ok w [I q,I n,.string s,I 0,.bool false,I 0,.slice none 0 0] (.mk q n s 0 false 0 []):=by unfold ExL;exact⟨none,0,z,⟨rl,by decide⟩,by unfold ch;trivial⟩
theorem kH{x:Ex}{cs:List Fr}(C:ExL (W.1.size<=·) w cs x)(A:W.1.size<=w.1.size)(q n:Int)(s:ByteArray):
  ExL (W.1.size<=·) (w.alloc (.cells cs.toArray 58)) [I q,I n,.string s,I 0,.bool false,I 0,.slice (some (ad w.1.size 0)) 1 1] (.mk q n s 0 false 0 [x]):=by
 unfold ExL;refine⟨some (ad w.1.size 0),1,z,⟨rl,by decide⟩,?_⟩;unfold ch;refine⟨⟨w.1.size,0,cs,z,A,fun t v g=>?_,?_⟩,by unfold ch;trivial⟩
 .have j:(w.alloc (.cells cs.toArray 58)).1[w.1.size]? =some (.cells cs.toArray 58 (0,0)):=Df _ _;simp only[FI,j];simpa using g
 .refine ExL.keep (fun c o v D g=>?_) C;have j:=(Gz w (.cells cs.toArray 58) none).block c (FF w _ g) (by simp);rw[<-g];simp[FI,j]
theorem mH{x:Ex}{cs:List Fr}(A:ExL (w.1.size<=·) W cs x)(C:c<w.1.size)(t:Nat)(u:Fr):ExL (w.1.size<=·) (W.setCell (ad c t) u) cs x:=
 ExL.keep (fun d o v hd j=>by
  have g:d≠c:=by have:=hd;omega
  rw[<-j];exact Ih W (ad c t) (ad d o) u (Gp g)) A
theorem Xc.EZ(h:Xc w b v5 v0 v1 v2 v3 v4 v6)(A g:Fr):Xc ((w.setCell (ad b 0) A).setCell (ad b 6) g) b A v0 v1 v2 v3 v4 g:=by have C:=bz (j:=6) (bz (j:=0) h A) g;unfold Xc;rw[C];simp
theorem qM{f:Nat}(c8:b≠0)(hE:CE b S f):CP b S (f+1):=by
 intro w k R h hO A;rw[pP]at A;have h0:=h.alloc (.cells #[I 0,I 0,.string ⟨#[]⟩,I 0,.bool false,I 0,.slice none 0 0] 58);have e1:Xc (w.alloc (.cells #[I 0,I 0,.string ⟨#[]⟩,I 0,.bool false,I 0,.slice none 0 0] 58)) w.1.size (I 0) (I 0) (.string ⟨#[]⟩) (I 0) (.bool false) (I 0) (.slice none 0 0):=Df _ _;have g9:Kp w (w.alloc (.cells #[I 0,I 0,.string ⟨#[]⟩,I 0,.bool false,I 0,.slice none 0 0] 58)) b b:=bi ((FB _ w).alloc rl _);have i9:=h.lt;have HH:=O h;go_in;go_wp2_with fail;generalize w.alloc (.cells #[I 0,I 0,.string ⟨#[]⟩,I 0,.bool false,I 0,.slice none 0 0] 58)=W0 at *;apply (bD h0 no).mono;rintro e W1 ⟨d6,rfl,h1⟩;have a3:=g9.trans d6
 have a7:=e1.of (d6.block _ e1.lt (by omega) (by omega));let ⟨m,hm⟩:=eX (cr S.T k no)
 rw[hm]at A h1;rw[hm];clear hm g9 d6 e1 h0;let ⟨z,hz⟩:=eX (w.1.size)
 have HZ:=O hz;have j4:=a3.size;have h8:=a7.lt;rw[hz]at a7 i9 h8 ⊢;cases m
 .rw[am FY]at A h1;have hp:=fd h1;have e0:=pV S.T S.en k;let ⟨wd,i0⟩:=eX (bo S.T S.en k)
  rw[i0]at hp e0;let ⟨kd,tx,nu,li,co⟩:=wd
  have HK:=O (show kd=ba S.T k from e0);have hf:=wD kd tx nu li co;clear e0 i0;go_wp2_with fail;apply hp.mono;rintro e Z ⟨rfl,b6⟩;simp only[Wd.val];have H:=bi (b:=b) b6;have h2:=h1.below b6;have a0:=a3.trans H;have i4:=H.size;have a4:=a7.of (b6.block z h8);clear a3 H b6 a7 h1 hp;by_cases H:kd=2
  .subst H;have d1:=HK.symm;rw[aD d1]at A;have d3:=eG h2 (R:= .ok ((S.T.getD k default).num,k+1)) (by unfold bG;rw[aD d1]);let ⟨nn,f9⟩:=eX ((S.T.getD k default).num)
   rw[f9]at d3 A;cases A;clear d1 f9;go_wp2_with fail;apply d3.mono;rintro e V ⟨G,rfl,E⟩;have D:=a0.trans G;have g:=a4.of (G.block z (by omega) (by omega) (by omega));have HE:=O (EQ g (EQ D E));have d5:=g.c0;have t1:=g.c1;have t2:=g.c2;have t3:=g.c3;have t4:=g.c4;have t5:=g.c5;have t6:=g.c6;have f0:=g.frozen 0;have f1:=g.frozen 1;have f2:=g.frozen 2;have f3:=g.frozen 3;have f4:=g.frozen 4;have f5:=g.frozen 5;have f6:=g.frozen 6;clear g D E G a0 h2 a4 hE d3;go_wp2;let ⟨g,D,E⟩:=HE
   have J:=cP D (z:=z) (by rw[HZ.o];exact FL _);refine eb (g.set _ _ _ _ _ _ _) rfl rfl rfl ⟨J _ _ _ _ _ _ _,⟨_,rfl,hD _ 1 nn ⟨#[]⟩⟩,?_⟩;exact HH.fin E (J _ _ _ _ _ _ _) (bb (by omega) _ _ _ _ _ _ _)
  .rw[am (fun e=>H (HK.o.trans e))]at A;go_wp2_with fail;rcases hn:aV S.T k with _|R2
   .rw[hn]at A;cases A
   .apply (cn h2 hn).mono;rcases R2 with j2|⟨nm,j2⟩
    .rw[hn]at A;cases A;rintro e V ⟨G,rfl⟩;exact⟨rfl,a0.trans G,rfl⟩
    .rw[hn,ay]at A;rintro e V ⟨G,rfl,E⟩;have D:=a0.trans G;have g:=a4.of (G.block z (by omega) (by omega) (by omega));have i8:=G.size;have c9:Xc (V.alloc (.cells #[I 2,I 0,.string nm,I 0,.bool false,I 0,.slice none 0 0] 58)) V.1.size (I 2) (I 0) (.string nm) (I 0) (.bool false) (I 0) (.slice none 0 0):=Df _ _;have d8:=g.alloc (.cells #[I 2,I 0,.string nm,I 0,.bool false,I 0,.slice none 0 0] 58);have h5:=E.alloc (.cells #[I 2,I 0,.string nm,I 0,.bool false,I 0,.slice none 0 0] 58);have g3:=D.alloc (.cells #[I 2,I 0,.string nm,I 0,.bool false,I 0,.slice none 0 0] 58);have i1:(V.alloc (.cells #[I 2,I 0,.string nm,I 0,.bool false,I 0,.slice none 0 0] 58)).1.size=V.1.size+1:=by simp
     let ⟨y,hy⟩:=eX (V.1.size)
     rw[hy]at c9 i8 i1;have HY:=O hy;go_wp2_with fail;generalize V.alloc (.cells #[I 2,I 0,.string nm,I 0,.bool false,I 0,.slice none 0 0] 58)=W5 at *;apply (bD h5 ho).mono;rintro e W6 ⟨b4,rfl,f7⟩;have j5:=b4.size;have j6:=h5.lt;have a6:=g3.trans b4;have C:=d8.of (b4.block _ d8.lt (by omega) (by omega));have Y:=c9.of (b4.block _ c9.lt (by omega) (by omega));let ⟨m,hm⟩:=eX (cr S.T j2 ho)
     rw[hm]at A f7;rw[hm];cases m
     .rw[am FY]at A f7;cases A;have HE:=O (EQ C (EQ a6 f7));have b8:y≠z:=by omega
      have y0:=Y.c0;have y1:=Y.c1;have y2:=Y.c2;have y3:=Y.c3;have y4:=Y.c4;have y5:=Y.c5;have y6:=Y.c6;have d5:=C.c0;have t1:=C.c1;have t2:=C.c2;have t3:=C.c3;have t4:=C.c4;have t5:=C.c5;have t6:=C.c6;have f0:=C.frozen 0;have f1:=C.frozen 1;have f2:=C.frozen 2;have f3:=C.frozen 3;have f4:=C.frozen 4;have f5:=C.frozen 5;have f6:=C.frozen 6;go_wp2;let ⟨g,D,E⟩:=HE
      have J:=cP D (z:=z) (by rw[HZ.o];exact FL _);refine eb (g.set _ _ _ _ _ _ _) rfl rfl rfl ⟨J _ _ _ _ _ _ _,⟨_,rfl,hD _ 2 0 nm⟩,?_⟩;exact HH.fin E (J _ _ _ _ _ _ _) (bb (by omega) _ _ _ _ _ _ _)
     .rw[aD rfl]at A f7;rcases hx:pE S.T f 1 (j2+1) with _| (j|⟨x,j⟩)
      .rw[hx]at A;cases A
      .rw[hx]at A;cases A;go_wp2_with fail;apply (hE W6 1 (j2+1) _ (by decide) f7 (hO.kp a6 c8) hx).mono;rintro e Q ⟨a5,rfl⟩;exact⟨rfl,a6.trans a5,rfl⟩
      .rw[hx,ay]at A;go_wp2_with fail;apply (hE W6 1 (j2+1) _ (by decide) f7 (hO.kp a6 c8) hx).mono;rintro e Q ⟨a5,⟨cs,rfl,hX⟩,h7⟩;let ⟨M,W,xs,X,U,N,K⟩:=x
       have b5:=hX;unfold ExL at hX;obtain⟨a,cap,rfl,i6,d4⟩:=hX;have i2:=a5.size;have i3:=C.lt;have e3:=Y.lt;have i5:=f7.lt;have e8:=a6.trans a5;have e6:=C.of (a5.block z (by omega) (by omega) (by omega));have f8:=Y.of (a5.block y (by omega) (by omega) (by omega));have e7:=kH b5 i2 3 0 nm;have g1:=e6.alloc (.cells #[I M,I W,.string xs,I X,.bool U,I N,.slice a K.length cap] 58);have a9:=f8.alloc (.cells #[I M,I W,.string xs,I X,.bool U,I N,.slice a K.length cap] 58);have e5:=e8.alloc (.cells #[I M,I W,.string xs,I X,.bool U,I N,.slice a K.length cap] 58)
       have e2:(Q.alloc (.cells #[I M,I W,.string xs,I X,.bool U,I N,.slice a K.length cap] 58)).1[b]? =Q.1[b]? :=(Gz Q _ none).block b h7.lt (by simp);have b8:y≠z:=by omega
       have e9:y≠b:=by omega
       have HX:=mH (mH e7 (c:=y) e3 0 (I 3)) (c:=y) e3 6 (.slice (some (ad Q.1.size 0)) 1 1);have d2:Xc _ z _ _ _ _ _ _ _:=(g1.of (FK _ (ad y 0) (I 3) z (Gp b8))).of (FK _ (ad y 6) (.slice (some (ad Q.1.size 0)) 1 1) z (Gp b8));have d9:=a9.EZ (I 3) (.slice (some (ad Q.1.size 0)) 1 1);have b7:=(e5.R (r:=y) (by omega) 0 (I 3)).R (r:=y) (by omega) 6 (.slice (some (ad Q.1.size 0)) 1 1);have h9:=HH.fin h7 b7 (((FK _ (ad y 6) _ b (Gp e9)).trans (FK _ (ad y 0) _ b (Gp e9))).trans e2);have y0:=a9.c0;have y6:=a9.c6;have g0:=a9.frozen 0;have g6:=a9.frozen 6;go_wp2_with fail
       generalize j1:((Q.alloc (.cells #[I M,I W,.string xs,I X,.bool U,I N,.slice a K.length cap] 58)).setCell (ad y 0) (I 3)).setCell (ad y 6) (.slice (some (ad Q.1.size 0)) 1 1)=W9 at *;generalize Q.1.size=q7 at *;rcases hw:aU S.T gx j with _|R2
       .rw[hw]at A;cases A
       .apply (aX h9 gx hw).mono;rintro e j7 ⟨a8,g7⟩;rcases R2 with j3|⟨_,j3⟩
        .rw[hw]at A;cases A;obtain rfl:=g7;exact⟨rfl,b7.trans a8,rfl⟩
        .rw[hw]at A;cases A;obtain⟨rfl,g8⟩:=g7;have e4:=b7.trans a8;have F:=d2.of (a8.block z d2.lt (by omega) (by omega));have a2:=d9.of (a8.block y d9.lt (by omega) (by omega));have g2:=ExL.kp HX a8 i5;have i7:w.1.size<=W6.1.size:=by omega
         have HE:=O (EQ F (EQ (po (w:=w) g2 (z:=z) i3 i7) (EQ e4 g8)));have y0:=a2.c0;have y1:=a2.c1;have y2:=a2.c2;have y3:=a2.c3;have y4:=a2.c4;have y5:=a2.c5;have y6:=a2.c6;have d5:=F.c0;have t1:=F.c1;have t2:=F.c2;have t3:=F.c3;have t4:=F.c4;have t5:=F.c5;have t6:=F.c6;have f0:=F.frozen 0;have f1:=F.frozen 1;have f2:=F.frozen 2;have f3:=F.frozen 3;have f4:=F.frozen 4;have f5:=F.frozen 5;have f6:=F.frozen 6;go_wp2;let ⟨g,hA,D,E⟩:=HE
         have J:=cP D (z:=z) (by rw[HZ.o];exact FL _);refine eb (g.set _ _ _ _ _ _ _) rfl rfl rfl ⟨J _ _ _ _ _ _ _,⟨_,rfl,hA _ _ _ _ _ _ _⟩,?_⟩;exact HH.fin E (J _ _ _ _ _ _ _) (bb (by omega) _ _ _ _ _ _ _)
 .rw[aD rfl]at A h1;rcases hx:pE S.T f 1 (k+1) with _| (j|⟨x,j⟩)
  .rw[hx]at A;cases A
  .rw[hx]at A;cases A;go_wp2_with fail;apply (hE W1 1 (k+1) _ (by decide) h1 (hO.kp a3 c8) hx).mono;rintro e Z ⟨H,rfl⟩;exact⟨rfl,a3.trans H,rfl⟩
  .rw[hx,ay]at A;go_wp2_with fail;apply (hE W1 1 (k+1) _ (by decide) h1 (hO.kp a3 c8) hx).mono;rintro e Z ⟨H,⟨cs,rfl,hX⟩,h2⟩;let ⟨M,W,xs,X,U,N,K⟩:=x
   have b5:=hX;unfold ExL at hX;obtain⟨a,cap,rfl,i6,d4⟩:=hX;have a0:=a3.trans H;have a4:=a7.of (H.block _ (by omega) (by omega) (by omega));have d7:Xc (Z.alloc (.cells #[I M,I W,.string xs,I X,.bool U,I N,.slice a K.length cap] 58)) Z.1.size (I M) (I W) (.string xs) (I X) (.bool U) (I N) (.slice a K.length cap):=Df _ _;have i4:=H.size;have h3:=h2.alloc (.cells #[I M,I W,.string xs,I X,.bool U,I N,.slice a K.length cap] 58);have d0:Kp Z (Z.alloc (.cells #[I M,I W,.string xs,I X,.bool U,I N,.slice a K.length cap] 58)) b b:=bi ((FB _ Z).alloc rl _);go_wp2_with fail;generalize j0:Z.alloc (.cells #[I M,I W,.string xs,I X,.bool U,I N,.slice a K.length cap] 58)=W3 at *
   rcases hy:aU S.T ky j with _|R2
   .rw[hy]at A;cases A
   .apply (aX h3 ky hy).mono;rintro e V ⟨G,g4⟩;rcases R2 with j2|⟨_,j2⟩
    .rw[hy]at A;cases A;obtain rfl:=g4;exact⟨rfl,(a0.trans d0).trans G,rfl⟩
    .rw[hy]at A;cases A;obtain⟨rfl,E⟩:=g4;have b9:=d0.trans G;have D:=a0.trans b9;have g:=a4.of (b9.block z (by omega) (by omega) (by omega));have a1:=d7.of (G.block _ d7.lt (by omega) (by omega));have g5:ExL (W1.1.size<=·) V _ _:=ExL.kp b5 b9 (by omega);have HE:=O (EQ g (EQ (po (w:=w) g5 (z:=z) (by omega) j4) (EQ D E)));have b8:Z.1.size≠z:=by omega
     have y0:=a1.c0;have y1:=a1.c1;have y2:=a1.c2;have y3:=a1.c3;have y4:=a1.c4;have y5:=a1.c5;have y6:=a1.c6;have d5:=g.c0;have t1:=g.c1;have t2:=g.c2;have t3:=g.c3;have t4:=g.c4;have t5:=g.c5;have t6:=g.c6;have f0:=g.frozen 0;have f1:=g.frozen 1;have f2:=g.frozen 2;have f3:=g.frozen 3;have f4:=g.frozen 4;have f5:=g.frozen 5;have f6:=g.frozen 6;go_wp2;let ⟨g,hA,D,E⟩:=HE
     have J:=cP D (z:=z) (by rw[HZ.o];exact FL _);refine eb (g.set _ _ _ _ _ _ _) rfl rfl rfl ⟨J _ _ _ _ _ _ _,⟨_,rfl,hA _ _ _ _ _ _ _⟩,?_⟩;exact HH.fin E (J _ _ _ _ _ _ _) (bb (by omega) _ _ _ _ _ _ _)
theorem nr{ok:Nat->Prop}{x y:Ex}(E:ExL ok W [v4,v5,v6,v7,v8,v9,u0] x)(D:ExL ok W [u1,u2,u3,v0,v1,v2,v3] y)(j:ok W.1.size)(w:Nat):
  ExL ok (W.alloc (.cells #[v4,v5,v6,v7,v8,v9,u0,u1,u2,u3,v0,v1,v2,v3] 58)) [I 6,I 0,.string aq,I 0,.bool false,I w,.slice (some (ad W.1.size 0)) 2 2] (dU w x y):=by
 have A:(W.alloc (.cells #[v4,v5,v6,v7,v8,v9,u0,u1,u2,u3,v0,v1,v2,v3] 58)).1[W.1.size]? =some (.cells #[v4,v5,v6,v7,v8,v9,u0,u1,u2,u3,v0,v1,v2,v3] 58 (0,0)):=Df _ _;have C:∀ (c o:Nat) (v:Fr),ok c->W.cell? (ad c o)=some v->(W.alloc (.cells #[v4,v5,v6,v7,v8,v9,u0,u1,u2,u3,v0,v1,v2,v3] 58)).cell? (ad c o)=some v:=fun c o v _ g=>by have F:=(Gz W (.cells #[v4,v5,v6,v7,v8,v9,u0,u1,u2,u3,v0,v1,v2,v3] 58) none).block c (FF W _ g) (by simp);rw[<-g];simp[FI,F]
 unfold dU ExL;refine⟨some (ad W.1.size 0),2,z,⟨rl,by decide⟩,?_⟩;unfold ch;refine⟨⟨W.1.size,0,_,z,j,fun t v g=>?_,ExL.keep C E⟩,?_⟩
 .simp only[FI,A];rcases t with _|_|_|_|_|_|_|t;all_goals first| (simp at g;done)|simpa using g
 .unfold ch;refine⟨⟨W.1.size,0,_,z,j,fun t v g=>?_,ExL.keep C D⟩,by unfold ch;trivial⟩;simp only[FI,A];rcases t with _|_|_|_|_|_|_|t;all_goals first| (simp at g;done)|simpa using g
def St.setKind:St->Int->St
 | .mk _ l c s t x y b e i sl ot lo,k=> .mk k l c s t x y b e i sl ot lo
def St.setName:St->ByteArray->St
 | .mk k l c _ t x y b e i sl ot lo,s=> .mk k l c s t x y b e i sl ot lo
def St.DH:St->ByteArray->St
 | .mk k l c s _ x y b e i sl ot lo,t=> .mk k l c s t x y b e i sl ot lo
def St.Dh:St->Ex->St
 | .mk k l c s t _ y b e i sl ot lo,x=> .mk k l c s t x y b e i sl ot lo
def St.setIndex:St->Ex->St
 | .mk k l c s t x _ b e i sl ot lo,y=> .mk k l c s t x y b e i sl ot lo
def St.setBody:St->List St->St
 | .mk k l c s t x y _ e i sl ot lo,b=> .mk k l c s t x y b e i sl ot lo
def St.DW:St->List St->St
 | .mk k l c s t x y b _ i sl ot lo,e=> .mk k l c s t x y b e i sl ot lo
theorem ExL.cells{ok:Nat->Prop}{cs:List Fr}:∀ {e:Ex},ExL ok w cs e->cs.length=7/\∀v∈cs,v.oneCell'=true
 | .mk k n s sl lo o args,h=>by
  unfold ExL at h
  obtain⟨a,cap,rfl,-⟩:=h
  refine⟨z,fun v g=>?_⟩
  simp only[FQ,FO,or_false]at g
  rcases g with rfl|rfl|rfl|rfl|rfl|rfl|rfl<;>rfl
theorem bX.cells{ok:Nat->Prop}{cs:List Fr}:∀ {s:St},bX ok w cs s->cs.length=25/\∀v∈cs,v.oneCell'=true
 | .mk k l c s t x y b e i sl ot lo,h=>by
  unfold bX at h
  obtain⟨K,H,a,J,cap,G,rfl,E,A,-⟩:=h
  let ⟨F,j⟩:=E.cells
  let ⟨C,D⟩:=A.cells
  refine⟨by simp[F,C],fun v g=>?_⟩
  simp only[FQ,List.mem_append,FO,or_false]at g
  rcases g with rfl|rfl|rfl|rfl|rfl|g|g|rfl|rfl|rfl|rfl|rfl|rfl
  case inr.inr.inr.inr.inr.inl=>exact j v g
  case inr.inr.inr.inr.inr.inr.inl=>exact D v g
  all_goals rfl
section
variable {ok:Nat→Prop} {w:Fk} {cs:List Fr}
theorem bX.kind(q:Int):∀ {s:St},bX ok w cs s->bX ok w (cs.set 0 (I q)) (s.setKind q)
 | .mk k l c s t x y b e i sl ot lo,h=>by
  unfold bX at h
  obtain⟨G,C,a,E,cap,j,rfl,H,A,J,g,D,F⟩:=h
  unfold St.setKind bX
  exact⟨G,C,a,E,cap,j,z,H,A,J,g,D,F⟩
theorem bX.name(q:ByteArray):∀ {s:St},bX ok w cs s->bX ok w (cs.set 3 (.string q)) (s.setName q)
 | .mk k l c s t x y b e i sl ot lo,h=>by
  unfold bX at h
  obtain⟨G,C,a,E,cap,j,rfl,H,A,J,g,D,F⟩:=h
  unfold St.setName bX
  exact⟨G,C,a,E,cap,j,z,H,A,J,g,D,F⟩
theorem bX.wth(q:ByteArray):∀ {s:St},bX ok w cs s->bX ok w (cs.set 4 (.string q)) (s.DH q)
 | .mk k l c s t x y b e i sl ot lo,h=>by
  unfold bX at h
  obtain⟨G,C,a,E,cap,j,rfl,H,A,J,g,D,F⟩:=h
  unfold St.DH bX
  exact⟨G,C,a,E,cap,j,z,H,A,J,g,D,F⟩
theorem bX.expr{z:Ex}(g:ExL ok w l2 z):∀ {s:St},bX ok w cs s->bX ok w (kh cs 5 l2) (s.Dh z)
 | .mk k l c s t x y b e i sl ot lo,h=>by
  unfold bX at h
  obtain⟨H,D,a,F,cap,A,rfl,J,C,K,j,E,G⟩:=h
  unfold St.Dh bX
  refine⟨l2,D,a,F,cap,A,?_,g,C,K,j,E,G⟩
  exact hd l2 H [I k,I l,I c,.string s,.string t] _ (by rw[g.cells.1,J.cells.1])
theorem bX.index{z:Ex}(g:ExL ok w l2 z):∀ {s:St},bX ok w cs s->bX ok w (kh cs 12 l2) (s.setIndex z)
 | .mk k l c s t x y b e i sl ot lo,h=>by
  unfold bX at h
  obtain⟨C,G,a,A,cap,j,rfl,D,F,K,E,H,J⟩:=h
  unfold St.setIndex bX
  refine⟨C,l2,a,A,cap,j,?_,D,g,K,E,H,J⟩
  have:=hd l2 G (I k::I l::I c:: .string s:: .string t::C) [.slice a b.length cap,.slice A e.length j,I i,I sl,I ot,.bool lo] (by rw[g.cells.1,F.cells.1])
  simpa [D.cells.1]using this
theorem bX.body(E:aF T0.length j)(C:aE ok w a0 0 T0):∀ {s:St},bX ok w cs s->bX ok w (cs.set 19 (.slice a0 T0.length j)) (s.setBody T0)
 | .mk k l c s t x y b e i sl ot lo,h=>by
  unfold bX at h
  obtain⟨K,F,a,H,cap,D,rfl,A,g,N,M,G,J⟩:=h
  unfold St.setBody bX
  refine⟨K,F,a0,H,j,D,?_,A,g,E,C,G,J⟩
  simp[A.cells.1,g.cells.1]
theorem bX.els(E:aF T0.length j)(C:aE ok w a0 0 T0):∀ {s:St},bX ok w cs s->bX ok w (cs.set 20 (.slice a0 T0.length j)) (s.DW T0)
 | .mk k l c s t x y b e i sl ot lo,h=>by
  unfold bX at h
  obtain⟨G,F,a,M,cap,J,rfl,A,g,H,D,K,N⟩:=h
  unfold St.DW bX
  refine⟨G,F,a,a0,cap,j,?_,A,g,H,D,E,C⟩
  simp[A.cells.1,g.cells.1]
end
def Sb(B:Nat)(w:Fk)(sb:Nat)(st:St):Prop:=∃cs,ak w sb 60 cs/\bX (fun c=>B<=c/\c≠sb) w cs st
section
variable {B sb:Nat} {w w':Fk} {st:St}
theorem Sb.lt(h:Sb B w sb st):sb<w.1.size:=by obtain⟨cs,g,-⟩:=h;exact g.lt
theorem Sb.there(h:Sb B w sb st){o:Nat}(g:o+n<=25):w.there sb o n:=by
 let ⟨cs,j,A⟩:=h
 exact j.there (by rw[A.cells.1];exact g)
theorem Sb.cell(h:Sb B w sb st)(C:j<25):∃v,w.cell? (ad sb j)=some v:=by
 let ⟨cs,g,A⟩:=h
 have:=A.cells.1;exact⟨_,(g.cell j).trans (List.getElem?_eq_getElem (by omega))⟩
theorem Sb.frozen(h:Sb B w sb st)(j:Nat):w.frozen? (ad sb j)=false:=by obtain⟨cs,g,-⟩:=h;exact g.frozen j
theorem Sb.keep(h:Sb B w sb st)(j:∀c,c<w.1.size->B<=c->w'.1[c]? =w.1[c]?)(E:B<=sb):Sb B w' sb st:=by
 have C:=h.lt;let ⟨cs,F,A⟩:=h
 refine⟨cs,F.of (j _ C E),bX.keep (fun c o v D g=>?_) A⟩;rw[<-g];simp[FI,j c (FF w _ g) D.1]
theorem Sb.kp(h:Sb B w sb st)(g:Kp w w' b b)(D:b<B)(j:B<=sb):Sb B w' sb st:=
 h.keep (fun c A C=>g.block c A (by omega) (by omega)) j
theorem Sb.drewN(h:Sb B w sb st)(n:Nat):Sb B (w.drewN n) sb st:=by
 let ⟨cs,g,A⟩:=h
 exact⟨cs,g.drewN n,bX.keep (w:=w) (w':=w.drewN n) (fun c o v C j=>j) A⟩
theorem Sb.write(g:List Fr)(j:St)(D:∀c,c≠sb->w'.1[c]? =w.1[c]?)(E:ak w' sb 60 g)(C:bX (fun c=>B<=c/\c≠sb) w g j):Sb B w' sb j:=
 ⟨g,E,bX.keep (fun c o v F A=>by rw[<-A];simp[FI,D c F.2]) C⟩
theorem Sb.kind(h:Sb B w sb st)(q:Int):Sb B (w.setCell (ad sb 0) (I q)) sb (st.setKind q):=by
 let ⟨cs,j,A⟩:=h
 exact Sb.write _ _ (fun c g=>FK w (ad sb 0) _ c g) (j.set1 0 _) (A.kind q)
theorem Sb.name(h:Sb B w sb st)(q:ByteArray):Sb B (w.setCell (ad sb 3) (.string q)) sb (st.setName q):=by
 let ⟨cs,j,A⟩:=h
 exact Sb.write _ _ (fun c g=>FK w (ad sb 3) _ c g) (j.set1 3 _) (A.name q)
theorem Sb.wth(h:Sb B w sb st)(q:ByteArray):Sb B (w.setCell (ad sb 4) (.string q)) sb (st.DH q):=by
 let ⟨cs,j,A⟩:=h
 exact Sb.write _ _ (fun c g=>FK w (ad sb 4) _ c g) (j.set1 4 _) (A.wth q)
theorem Sb.expr(h:Sb B w sb st){z:Ex}(g:ExL (fun c=>B<=c/\c≠sb) w l2 z):Sb B (w.setCells sb 5 l2) sb (st.Dh z):=by
 let ⟨cs,C,j⟩:=h
 exact Sb.write _ _ (fun c A=>au A _ _ w) (ak.setCells l2 5 C) (j.expr g)
theorem Sb.index(h:Sb B w sb st){z:Ex}(g:ExL (fun c=>B<=c/\c≠sb) w l2 z):Sb B (w.setCells sb 12 l2) sb (st.setIndex z):=by
 let ⟨cs,C,j⟩:=h
 exact Sb.write _ _ (fun c A=>au A _ _ w) (ak.setCells l2 12 C) (j.index g)
theorem Sb.body(h:Sb B w sb st)(C:aF T0.length j)(g:aE (fun c=>B<=c/\c≠sb) w a0 0 T0):Sb B (w.setCell (ad sb 19) (.slice a0 T0.length j)) sb (st.setBody T0):=by
 let ⟨cs,E,A⟩:=h
 exact Sb.write _ _ (fun c D=>FK w (ad sb 19) _ c D) (E.set1 19 _) (A.body C g)
theorem Sb.els(h:Sb B w sb st)(C:aF T0.length j)(g:aE (fun c=>B<=c/\c≠sb) w a0 0 T0):Sb B (w.setCell (ad sb 20) (.slice a0 T0.length j)) sb (st.DW T0):=by
 let ⟨cs,E,A⟩:=h
 exact Sb.write _ _ (fun c D=>FK w (ad sb 20) _ c D) (E.set1 20 _) (A.els C g)
end
mutual
theorem ExL.bound {ok:Nat->Prop} {w:Fk}:∀ {cs:List Fr} {e:Ex},ExL ok w cs e->ExL (fun c=>ok c/\c<w.1.size) w cs e
 |cs,.mk k n s sl lo o args,h=>by
  unfold ExL at h ⊢
  obtain⟨a,cap,h1,h2,h3⟩:=h
  exact⟨a,cap,h1,h2,ch.bound h3⟩
theorem ch.bound {ok:Nat->Prop} {w:Fk}:∀ {a:Option Addr} {i:Nat} {l:List Ex},ch ok w a i l->ch (fun c=>ok c/\c<w.1.size) w a i l
 |_,_,[],_=>by unfold ch;trivial
 |a,i,e::r,h=>by
  unfold ch at h ⊢
  obtain⟨⟨b,off,cs,h1,h2,h3,h4⟩,h5⟩:=h
  have hb:b<w.1.size:=by
   have h6:=h4
   obtain⟨k,n,s,sl,lo,o,args⟩:=e
   unfold ExL at h6
   obtain⟨_,_,rfl,_⟩:=h6
   exact FF w _ (h3 0 _ rfl)
  exact⟨⟨b,off,cs,h1,⟨h2,hb⟩,h3,ExL.bound h4⟩,ch.bound h5⟩
end
structure Bt (w0 w:Fk) (b z y:Nat) (S:bp) (l:Ex) (j:Nat):Prop where
 ex:∃v0 v1 v2 v3 v4 v5 v6,Xc w y v0 v1 v2 v3 v4 v5 v6/\ExL (fun c=>w0.1.size<=c/\c≠y/\c≠z) w [v0,v1,v2,v3,v4,v5,v6] l
 zz:Xc w z (.int .i64 0) (.int .i64 0) (.string ⟨#[]⟩) (.int .i64 0) (.bool false) (.int .i64 0) (.slice none 0 0)
 rd:Rw w b S j
 kp:Kp w0 w b b
theorem mi{B y z:Nat}{x:Ex}{cs:List Fr}(G:ExL (fun c=>B<=c/\c≠y/\c≠z) W cs x)(w j D C A E F:Fr):ExL (B<=·) (hm W z w j D C A E F) cs x:=by refine ExL.CQ (fun c g=> (g.1:B<=c)) (ExL.keep (fun c o v g H=>?_) G);rw[<-H];simp[FI,bb (W:=W) g.2.2 w j D C A E F]
def tL(w:Fk)(b:Nat):Nat:=match w.cell? ⟨b,1,none⟩ with
 |some (.int _ k)=>k.toNat
 |_=>0
theorem pF(h:Rw w b S k):tL w b=k:=by unfold tL;rw[h.c1];simp
theorem rN{f:Nat}(b5:b≠0)(hU:CU b S f)(hE:∀g,g<=f->CE b S g):CE b S (f+1):=by
 intro w n k R hn h hO C;rw[pE]at C;have h0:=h.alloc (.cells #[I 0,I 0,.string ⟨#[]⟩,I 0,.bool false,I 0,.slice none 0 0] 58);have c8:Xc (w.alloc (.cells #[.int .i64 0,.int .i64 0,.string ⟨#[]⟩,.int .i64 0,.bool false,.int .i64 0,.slice none 0 0] 58)) w.1.size (.int .i64 0) (.int .i64 0) (.string ⟨#[]⟩) (.int .i64 0) (.bool false) (.int .i64 0) (.slice none 0 0):=Df _ _;have a6:Kp w (w.alloc (.cells #[I 0,I 0,.string ⟨#[]⟩,I 0,.bool false,I 0,.slice none 0 0] 58)) b b:=bi ((FB _ w).alloc rl _);have j6:=h.lt;have HH:=O h;go_in;go_wp2_with fail;generalize w.alloc (.cells #[I 0,I 0,.string ⟨#[]⟩,I 0,.bool false,I 0,.slice none 0 0] 58)=W0 at *;rcases hx:pU S.T f k with _| (j|⟨x,j⟩)
 .rw[hx]at C;cases C
 .rw[hx]at C;cases C;refine(hU W0 k _ h0 (hO.kp a6 b5) hx).mono ?_;rintro e U ⟨a7,rfl⟩;exact⟨rfl,a6.trans a7,rfl⟩
 .rw[hx,ay]at C;refine(hU W0 k _ h0 (hO.kp a6 b5) hx).mono ?_;rintro e U ⟨a7,⟨cs,rfl,hX⟩,h1⟩;obtain⟨xk,xn,xs,xl,xo,xp,xa⟩:=x;have a8:=hX;unfold ExL at hX;obtain⟨a,cap,rfl,i8,g5⟩:=hX;have f9:=c8.lt;have i2:=a7.size;have h4:=a6.size;have hB:Bt w (U.alloc (.cells #[I xk,I xn,.string xs,I xl,.bool xo,I xp,.slice a xa.length cap] 58)) b w.1.size U.1.size S (.mk xk xn xs xl xo xp xa) j:=by
   refine⟨⟨_,_,_,_,_,_,_,Df _ _,?_⟩,(c8.of (a7.block _ f9 (by omega) (by omega))).alloc _,h1.alloc _,(a6.trans a7).alloc _⟩;refine ExL.CQ (fun c E=>?_) (ExL.keep (fun c o v E V=>?_) a8.bound)
   .obtain⟨e6,i5⟩:W0.1.size<=c/\c<U.1.size:=E;exact⟨by omega,by omega,by omega⟩
   .have h2:=(Gz U (.cells #[I xk,I xn,.string xs,I xl,.bool xo,I xp,.slice a xa.length cap] 58) none).block c (FF U _ V) (by simp);rw[<-V];simp[FI,h2]
  go_wp2_with fail;generalize i1:U.alloc (.cells #[I xk,I xn,.string xs,I xl,.bool xo,I xp,.slice a xa.length cap] 58)=W2 at *;clear i1;have i0:U.1.size≠w.1.size:=by omega
  have g8:w.1.size<=U.1.size:=by omega
  generalize hy:U.1.size=y at *;clear a8 g5 h1 a7 a6 c8 h0 hy f9 i2 h4 hx;have HB:=O hB;have HR:=O C;clear hB C;go_loopw [6] (fun i wr=>∃ (g m j:Nat) (l:Ex),i=I m/\m<=6/\g<=f/\Hid (pL S.T g n m l j=some R)/\Hid (Bt w wr b w.1.size y S l j)) (fun _ wr=>S.T.length-tL wr b)
  .exact⟨f,6,j,_,rfl,rl,rl,HR,HB⟩
  .obtain⟨g,m,j,l,rfl,j7,j1,HR,HB⟩:=hrel;obtain⟨g,rfl⟩:∃g',g=g'+1:=by
    cases g with
    |zero=>exact absurd HR.o (by simp[pL])
    |succ g=>exact⟨g,rfl⟩
   have C:=HR.o;rw[pL]at C;obtain⟨⟨v0,v1,v2,v3,v4,v5,v6,F,hL⟩,A,Q,a1⟩:=HB.o;obtain⟨G,ln,K,J,lo,lp,H⟩:=l;obtain⟨N,M,g7⟩:∃N M,[v0,v1,v2,v3,v4,v5,v6]=[I G,I ln,.string K,I J,.bool lo,I lp,.slice N H.length M]:=by have h:=hL;unfold ExL at h;obtain⟨N,M,h,-⟩:=h;exact⟨N,M,h⟩
   cases g7;have ho:=tU Q (hO.kp a1 b5);obtain⟨o,d4⟩:∃o,cq S.T j=o:=⟨_,rfl⟩;obtain⟨r,hr⟩:∃r,bm o=r:=⟨_,rfl⟩;rw[d4,hr]at C ho;have d6:=O (EQ d4 hr);clear d4 hr;have f7:∀w2,bL wr w2->Xc w2 y (I G) (I ln) (.string K) (I J) (.bool lo) (I lp) (.slice N H.length M)/\Xc w2 w.1.size (I 0) (I 0) (.string ⟨#[]⟩) (I 0) (.bool false) (I 0) (.slice none 0 0)/\Rw w2 b S j/\Kp w w2 b b/\ExL (fun c=>w.1.size<=c/\c≠y/\c≠w.1.size) w2 [I G,I ln,.string K,I J,.bool lo,I lp,.slice N H.length M] (.mk G ln K J lo lp H):=fun w2 hb=>by refine⟨F.of (hb.block _ F.lt),A.of (hb.block _ A.lt),Q.below hb,a1.trans (bi hb),ExL.keep (fun c o v E V=>?_) hL⟩;have h2:=hb.block c (FF wr _ V);rw[<-V];simp[FI,h2]
   have HK:=O f7;clear F hL A Q a1 f7;go_wp2_with fail;refine ho.mono ?_;rintro e w2 ⟨rfl,e0⟩;have HQ:=O (HK.o w2 e0);by_cases E:o=0∨r<n∨m<r
   .rw[aD E]at C;cases C;obtain⟨F,A,-,-,-⟩:=HQ.o;have y0:=F.c0;have y1:=F.c1;have y2:=F.c2;have y3:=F.c3;have y4:=F.c4;have y5:=F.c5;have y6:=F.c6;have i6:=A.c0;have t1:=A.c1;have t2:=A.c2;have t3:=A.c3;have t4:=A.c4;have t5:=A.c5;have t6:=A.c6;have f0:=A.frozen 0;have f1:=A.frozen 1;have f2:=A.frozen 2;have f3:=A.frozen 3;have f4:=A.frozen 4;have f5:=A.frozen 5;have f6:=A.frozen 6;clear F A ho e0 hU hE;go_wp2_with fail;all_goals first
     | (exfalso;omega)
     | (obtain⟨F,A,Q,a1,hL⟩:=HQ.o;have b7:=cP a1 (z:=w.1.size) rl;refine eb (A.set _ _ _ _ _ _ _) rfl rfl rfl ⟨b7 _ _ _ _ _ _ _,⟨_,rfl,mi hL _ _ _ _ _ _ _⟩,?_⟩;exact HH.o.fin Q (b7 _ _ _ _ _ _ _) (bb (by omega) _ _ _ _ _ _ _))
     |skip
   .rw[am E]at C;have d8:¬ (o=0):=fun e=>E (.inl e);have j9:((o:Int)==0)=false:=by simpa using d8
    have j8:decide (r<n)=false:=by simp;omega
    have i9:decide (m<r)=false:=by simp;omega
    obtain⟨F,A,Q,a1,hL⟩:=HQ.o;have e1:j<S.T.length:=jE S.T (by rw[d6.o.1];exact d8);have i7:=Q.mx;have c1:=Q.c1;have f1:=Q.frozen 1;have b8:y≠b:=by omega
    have b6:=Q.step e1;have g3:Xc (w2.setCell ⟨b,1,none⟩ (.int .i64 ((j:Int)+1))) y _ _ _ _ _ _ _:=F.of (FK _ ⟨b,1,none⟩ _ y b8);have g4:=a1.Dg 1 (I ((j:Int)+1));clear F A Q a1 hL;go_wp2_with fail;have a0:Xc (w2.setCell ⟨b,1,none⟩ (.int .i64 ((j:Int)+1))).drew y (.int .i64 G) (.int .i64 ln) (.string K) (.int .i64 J) (.bool lo) (.int .i64 lp) (.slice N H.length M):=g3;refine al [8] (fun W=>Xc W y (I G) (I ln) (.string K) (I J) (.bool lo) (I lp) (.slice N H.length M)) rfl ?_;refine tg _ 0 a0 (fun _ h=>h.al) ?_;refine tg _ 1 a0 (fun _ h=>h.al) ?_;refine tg _ 2 a0 (fun _ h=>h.al) ?_;refine tg _ 3 a0 (fun _ h=>h.al) ?_;refine tg _ 4 a0 (fun _ h=>h.al) ?_;refine tn 5 fun b4 hK=>?_;go_simp
    have g6:IntKind.i64.wrap ((r:Int)+1)=((r+1:Nat):Int):=by have:=iZ o;rw[d6.o.2]at this;rw[IntKind.wrap_i64];omega
    rw[g6];have e5:r+1<=7:=by have:=iZ o;rw[d6.o.2]at this;omega
    have c9:Rw (w2.setCell ⟨b,1,none⟩ (I ((j:Int)+1))).drew b S (j+1):=⟨b6.hd,b6.Ec,b6.ne,b6.le,b6.mx⟩;have a9:=g4.drew;rcases hx:pE S.T g (r+1) (j+1) with _| (j2|⟨x,j2⟩)
    .rw[hx]at C;cases C
    .rw[hx]at C;cases C;refine(hE g (by omega) _ (r+1) (j+1) _ e5 c9 (hO.kp a9 b5) hx).mono ?_;rintro e X ⟨a4,rfl⟩;exact⟨rfl,a9.trans a4,rfl⟩
    .rw[hx,ay]at C;refine(hE g (by omega) _ (r+1) (j+1) _ e5 c9 (hO.kp a9 b5) hx).mono ?_;rintro e X ⟨a4,⟨cs,rfl,hX⟩,h5⟩;obtain⟨Z,qn,Y,ql,qo,qp,qa⟩:=x;have a8:=hX;unfold ExL at hX;obtain⟨a3,a5,rfl,j3,h7⟩:=hX;have d3:=a0.of (a4.block y a0.lt b8 b8);refine hK _ _ (fun _=>d3) ?_;clear hK b4;refine tn 6 fun b4 hK=>?_;go_simp;have h3:=a4.size;have d1:(w2.setCell ⟨b,1,none⟩ (I ((j:Int)+1))).drew.1.size=w2.1.size:=by simp[World.drew,World.setCell]
     have j5:y<w2.1.size:=HQ.o.1.lt;have i3:w.1.size<w2.1.size:=HQ.o.2.1.lt;rw[d1]at h3;have d9:∀c,c≠b->(w2.setCell ⟨b,1,none⟩ (I ((j:Int)+1))).drew.1[c]? =w2.1[c]? :=fun c E=>FK w2 ⟨b,1,none⟩ _ c E;have d5:∀c,c<w2.1.size->c≠b->X.1[c]? =w2.1[c]? :=fun c E d2=> (a4.block c (by rw[d1];exact E) d2 d2).trans (d9 c d2);have hA:ExL (fun c=>w.1.size<=c/\c≠y/\c≠w.1.size) X [I G,I ln,.string K,I J,.bool lo,I lp,.slice N H.length M] (.mk G ln K J lo lp H):=
      ExL.keep (fun c o v E V=>by rw[<-V];simp[FI,d5 c (FF w2 _ V) (by have:=E.1;omega)]) HQ.o.2.2.2.2
     have g2:ExL (fun c=>w.1.size<=c/\c≠y/\c≠w.1.size) X [I Z,I qn,.string Y,I ql,.bool qo,I qp,.slice a3 qa.length a5] (.mk Z qn Y ql qo qp qa):=
      ExL.CQ (fun c E=>by have e6:(w2.setCell ⟨b,1,none⟩ (.int .i64 ((j:Int)+1))).drew.1.size<=c:=E;rw[d1]at e6;exact⟨by omega,by omega,by omega⟩) a8
     have hT:=nr hA g2 (show w.1.size<=X.1.size/\X.1.size≠y/\X.1.size≠w.1.size from⟨by omega,by omega,by omega⟩) o;have e4:Xc X w.1.size (.int .i64 0) (.int .i64 0) (.string ⟨#[]⟩) (.int .i64 0) (.bool false) (.int .i64 0) (.slice none 0 0):=HQ.o.2.1.of (d5 _ i3 (by omega));have f8:=a9.trans a4;have e2:=yy S.T (show j+1<=S.T.length from e1) hx;have D:=d3.alloc (.cells #[I G,I ln,.string K,I J,.bool lo,I lp,.slice N H.length M,I Z,I qn,.string Y,I ql,.bool qo,I qp,.slice a3 qa.length a5] 58);have e9:=e4.alloc (.cells #[I G,I ln,.string K,I J,.bool lo,I lp,.slice N H.length M,I Z,I qn,.string Y,I ql,.bool qo,I qp,.slice a3 qa.length a5] 58)
     have h6:=h5.alloc (.cells #[I G,I ln,.string K,I J,.bool lo,I lp,.slice N H.length M,I Z,I qn,.string Y,I ql,.bool qo,I qp,.slice a3 qa.length a5] 58);have e3:=f8.alloc (.cells #[I G,I ln,.string K,I J,.bool lo,I lp,.slice N H.length M,I Z,I qn,.string Y,I ql,.bool qo,I qp,.slice a3 qa.length a5] 58);generalize j0:X.alloc (.cells #[I G,I ln,.string K,I J,.bool lo,I lp,.slice N H.length M,I Z,I qn,.string Y,I ql,.bool qo,I qp,.slice a3 qa.length a5] 58)=W6 at *;generalize X.1.size=q5 at *;have hB:Bt w (hm W6 y (I 6) (I 0) (.string aq) (I 0) (.bool false) (I o) (.slice (some ⟨q5,0,none⟩) 2 2)) b w.1.size y S (dU o (.mk G ln K J lo lp H) (.mk Z qn Y ql qo qp qa)) j2:=by have b7:=cP e3 (z:=y) g8 (I 6) (I 0) (.string aq) (I 0) (.bool false) (I o) (.slice (some ⟨q5,0,none⟩) 2 2);refine⟨⟨_,_,_,_,_,_,_,D.set _ _ _ _ _ _ _,ExL.keep (fun c o v E V=>?_) hT⟩,e9.of (bb (Gp i0) _ _ _ _ _ _ _),HH.o.fin h6 b7 (bb (Gp b8) _ _ _ _ _ _ _),b7⟩;rw[<-V];simp only[FI];rw[bb E.2.1]
     have e7:=O hB;have d7:=O C;have HJ:=O e2;have b9:=pF hB.rd;have e8:tL wr b=j:=pF HB.o.rd;clear hB C hT hA g2 a8 h7 e4 e9 h6 e3 f8 d5 d9 a4 h5 hx e2 c9 a9 d3 a0;refine hK _ _ (fun _=>D) ?_;clear hK b4;refine t0 7 D ?_;refine tn 8 fun b4 hK=>?_;have h8:=D.c0;have h9:=D.c1;have s2:=D.c2;have s3:=D.c3;have s4:=D.c4;have s5:=D.c5;have s6:=D.c6;have f0:=D.frozen 0;have f1:=D.frozen 1;have f2:=D.frozen 2;have f3:=D.frozen 3;have f4:=D.frozen 4;have f5:=D.frozen 5;have f6:=D.frozen 6;go_simp;refine hK _ _ (fun h=>absurd h (by decide)) ?_;clear hK b4 h8 h9 s2 s3 s4 s5 s6 f0 f1 f2 f3 f4 f5 f6 D
     have d0:Hid (Bt w (hm W6 y (.int .i64 6) (.int .i64 0) (.string ⟨#[]⟩) (.int .i64 0) (.bool false) (.int .i64 (o:Int)) (.slice (some ⟨q5,0,none⟩) 2 2)) b w.1.size y S (dU o (.mk G ln K J lo lp H) (.mk Z qn Y ql qo qp qa)) j2):=e7;simp only[hm]at d0;clear e7;change tL (hm W6 y (I 6) (I 0) (.string ⟨#[]⟩) (I 0) (.bool false) (I o) (.slice (some ⟨q5,0,none⟩) 2 2)) b=j2 at b9;simp only[hm]at b9;generalize ((((((W6.setCell ⟨y,0,none⟩ (I 6)).setCell ⟨y,1,none⟩ (I 0)).setCell ⟨y,2,none⟩ (.string ⟨#[]⟩)).setCell ⟨y,3,none⟩ (I 0)).setCell ⟨y,4,none⟩ (.bool false)).setCell ⟨y,5,none⟩ (I o)).setCell ⟨y,6,none⟩ (.slice (some ⟨q5,0,none⟩) 2 2)=W8 at *;refine dn ?_
     have i4:fq r<=6:=by unfold fq;split<;>omega
     by_cases g1:r=3
     .subst g1;rename_i ha;go_simp;refine ha _ _ ?_;clear ha;go_wp2_with fail;exact⟨⟨g,2,j2,_,rfl,by decide,by omega,d7,d0⟩,by rw[b9,e8];have:=HJ.o;omega⟩
     .have j4:¬ ((r:Int)=3):=by omega
      have g9:fq r=r:=by unfold fq;rw[am g1]
      rw[g9]at d7;rename_i ha;go_simp;refine ha _ _ ?_;clear ha;go_wp2_with fail;exact⟨⟨g,r,j2,_,rfl,by omega,by omega,d7,d0⟩,by rw[b9,e8];have:=HJ.o;omega⟩
theorem rZ(C:b≠0):∀f,CU b S f/\CP b S f/\(∀g,g<=f->CE b S g):=by
 intro f;induction f with
 |zero=>
  refine⟨fun w k R h D j=>?_,fun w k R h D j=>?_,fun g G=>?_⟩
  .rw[hO]at j;cases j
  .rw[mJ]at j;cases j
  .obtain rfl:g=0:=by omega
   intro w n k R J h D j;rw[pZ]at j;cases j
 |succ f F=>
  let ⟨E,H,A⟩:=F
  refine⟨pA C E H,qM C (A f rl),fun g G=>?_⟩;by_cases h:g<=f
  .exact A g h
  .obtain rfl:g=f+1:=by omega
   exact rN C E A
theorem cV(A:b≠0)(h:Rw w b S k)(g:hR w){R:Except Nat (Ex×Nat)}(j:pX S.T k=some R):
  Jq prog 67 #[Pt b,I 1] w (WP w b S R (kN w)):=(rZ A (4*S.T.length+4)).2.2 _ rl w 1 k R (by decide) h g j
def SP(w:Fk)(b sb B:Nat)(S:bp)(R:Except Nat (St×Nat))(e:GP)(w':Fk):Prop:=
 Kp w w' b sb/\match R with
  | .ok (st,j)=>e= .returned (.tuple #[])/\Sb B w' sb st/\Rw w' b S j
  | .error j=>e= .panicked [lr S j]
def oa(S:bp)(sb:Nat):Prop:=∀g o,S.a=some ⟨g,o,none⟩->0<S.T.length->g≠sb
theorem Rw.EW{sb:Nat}(h:Rw w b S k)(E:w.1.size<=sb):oa S sb:=fun g o A C=>by obtain⟨G,F,j,D,-⟩:=h.Ec 0 C;rw[A]at j;cases j;have H:g<w.1.size:=FF w _ D;omega
def iT(b:Nat)(S:bp)(f:Ig)(g:St->Nat->PR St):Prop:=∀ (w:Fk) (B sb k:Nat) (st:St) (R:Except Nat (St×Nat)),Rw w b S k->hR w->oa S sb->b<B->B<=sb->Sb B w sb st->g st k=some R->
 Jq prog f #[.pointer (some ⟨b,0,none⟩),.pointer (some ⟨sb,0,none⟩)] w (SP w b sb B S R)
def kd(T:List Wd)(st:St)(k:Nat):PR St:=ap (aV T k) fun s j=>some (.ok (st.setName s,j))
def pR(T:List Wd)(st:St)(k:Nat):PR St:=ap (aV T k) fun s j=>some (.ok (st.DH s,j))
def lx(T:List Wd)(st:St)(k:Nat):PR St:=ap (pX T k) fun x j=>some (.ok (st.Dh x,j))
def AO(T:List Wd)(st:St)(k:Nat):PR St:=ap (aU T iE k) fun _ j=>some (.ok (st,j))
theorem bC:(prog.info? 58).map (·.size)=some 7:=by kernel_rfl
theorem ar:(prog.info? 60).map (·.size)=some 25:=by kernel_rfl
theorem Rw.put(h:Rw w b S k)(C:Rw W b S j){sb:Nat}(Q:Kp w V b sb)(N:V.1[b]? =W.1[b]?)(H:oa S sb):Rw V b S j:=by
 refine⟨N.trans C.hd,?_,C.ne,C.le,C.mx⟩;intro i G;let ⟨g,E,D,F,U,J,K,M⟩:=h.Ec i G
 have R:=FF w _ F;have A:∀o,V.cell? (ad g o)=w.cell? (ad g o):=fun o=>by simp[FI,Q.block g R (h.ne g E D) (H g E D (by omega))]
 exact⟨g,E,D,(A _).trans F,(A _).trans U,(A _).trans J,(A _).trans K,(A _).trans M⟩
theorem Rw.Ee{sb:Nat}(h:Rw w b S k)(g:b≠sb)(j:oa S sb)(o:Nat)(u:Fr):Rw (w.setCell (ad sb o) u) b S k:=
 h.put h ((Kp.refl w b sb).DY o u) (FK w (ad sb o) u b g) j
theorem Rw.Ek{sb:Nat}(h:Rw w b S k)(g:b≠sb)(j:oa S sb)(o:Nat)(vs:List Fr):Rw (w.setCells sb o vs) b S k:=
 h.put h (Kp.Dv vs o (Kp.refl w b sb)) (au g vs o w) j
theorem ExL.part{B sb:Nat}{cs:List Fr}{x:Ex}(h:ExL (W.1.size<=·) w cs x)(j:B<=sb)(A:sb<W.1.size):ExL (fun c=>B<=c/\c≠sb) w cs x:=
 ExL.CQ (fun c g=>by have:=g;exact⟨by omega,by omega⟩) h
theorem ro:iT b S 63 (kd S.T):=by
 intro w B sb k st R h N F K M E g;unfold kd at g;go_in;go_wp2_with fail;rcases hn:aV S.T k with _| (j|⟨nm,j⟩)
 .rw[hn]at g;cases g
 .rw[hn]at g;cases g;apply (cn h hn).mono;rintro e H ⟨A,rfl⟩;exact⟨z,A.Db,z⟩
 .rw[hn]at g;cases g;apply (cn h hn).mono;rintro e H ⟨A,rfl,D⟩;have C:=E.kp A K M;let ⟨v,c3⟩:=C.cell (j:=3) (by decide)
  have Q:=C.frozen 3;have G:b≠sb:=by omega
  have J:=O (EQ C (EQ D A));go_wp2;go_end0;let ⟨C,D,A⟩:=J
  exact⟨A.Db.DY _ _,z,C.name _,D.Ee G F _ _⟩
theorem rv:iT b S 65 (pR S.T):=by
 intro w B sb k st R h N F K M E g;unfold pR at g;go_in;go_wp2_with fail;rcases hn:aV S.T k with _| (j|⟨nm,j⟩)
 .rw[hn]at g;cases g
 .rw[hn]at g;cases g;apply (cn h hn).mono;rintro e H ⟨A,rfl⟩;exact⟨z,A.Db,z⟩
 .rw[hn]at g;cases g;apply (cn h hn).mono;rintro e H ⟨A,rfl,D⟩;have C:=E.kp A K M;let ⟨v,c3⟩:=C.cell (j:=4) (by decide)
  have Q:=C.frozen 4;have G:b≠sb:=by omega
  have J:=O (EQ C (EQ D A));go_wp2;go_end0;let ⟨C,D,A⟩:=J
  exact⟨A.Db.DY _ _,z,C.wth _,D.Ee G F _ _⟩
theorem rG(H:b≠0):iT b S 66 (lx S.T):=by
 intro w B sb k st R h G K U J F A;unfold lx at A;go_in;go_wp2_with fail;rcases hn:pX S.T k with _| (j|⟨x,j⟩)
 .rw[hn]at A;cases A
 .rw[hn]at A;cases A;apply (cV H h G hn).mono;rintro e N ⟨C,rfl⟩;exact⟨z,C.Db,z⟩
 .rw[hn]at A;cases A;apply (cV H h G hn).mono;rintro e N ⟨C,⟨cs,rfl,g⟩,E⟩;have D:=F.kp C U J;have V:=dV (D.there (o:=5) (n:=7) (by decide)) g.cells.1 g.cells.2;have W:=g.cells.1;have M:b≠sb:=by omega
  have Q:=O (EQ D (EQ E (EQ C (g.part J F.lt))));go_wp2;go_end0;let ⟨D,E,C,g⟩:=Q
  exact⟨Kp.Dv _ _ C.Db,z,D.expr g,E.Ek M K _ _⟩
theorem wg:iT b S 68 (AO S.T):=by
 intro w B sb k st R h K J E G C g;unfold AO at g;go_in;go_wp2_with fail;rcases hn:aU S.T iE k with _| (j|⟨u,j⟩)
 .rw[hn]at g;cases g
 .rw[hn]at g;cases g;apply (aX h iE hn).mono;rintro e D ⟨A,rfl⟩;exact⟨z,A.Db,z⟩
 .rw[hn]at g;cases g;apply (aX h iE hn).mono;rintro e D ⟨A,rfl,H⟩;have F:=C.kp A E G;go_wp2;go_end0;exact⟨A.Db,z,F,H⟩
theorem hR.Eu{w':Fk}{sb:Nat}(h:hR w)(C:Kp w w' b sb)(F:b≠0)(A:sb≠0):hR w':=fun j E=>by have g:=h j E;have D:=C.block 0 (FF w _ g) (Gp F) (Gp A);rw[<-g];simp[FI,D]
theorem mw{B sb:Nat}{cs:List Fr}{x:Ex}(h:ExL (fun c=>B<=c/\c≠sb) W cs x)(o:Nat)(u:Fr):ExL (fun c=>B<=c/\c≠sb) (W.setCell (ad sb o) u) cs x:=
 ExL.keep (fun d p v hd g=>by rw[<-g];exact Ih W (ad sb o) (ad d p) u (Gp hd.2)) h
def oH(T:List Wd)(st:St)(k:Nat):PR St:=ap (aU T aI k) fun _ j=>some (.ok (st,j))
def up(T:List Wd)(st:St)(k:Nat):PR St:=ap (aU T iE k) fun _ m=>ap (pX T m) fun x j=>oH T (st.Dh x) j
def jQ(T:List Wd)(st:St)(k:Nat):PR St:=ap (aV T k) fun s j=>
 if cr T j ho=true then ap (pX T (j+1)) fun y m=>ap (aU T gx m) fun _ n=>up T ((((st.setKind 2).setName s).setKind 3).setIndex y) n
 else up T ((st.setKind 2).setName s) j
theorem qV(T:List Wd)(p:Int×Int)(k:Nat):jQ T (aP 0 p aq aq aT aT [] []) k=bU T p k:=by unfold jQ bU;congr 1
theorem oc(G:b≠0):iT b S 145 (jQ S.T):=by
 intro w B sb k st R h hO hA J C hs g;unfold jQ up oH at g;have a5:b≠sb:=by omega
 have a6:sb≠0:=by omega
 go_in;go_wp2_with fail;rcases hx1:aV S.T k with _| (j1|⟨x1,j1⟩)
 .rw[hx1]at g;cases g
 .rw[hx1]at g;cases g;apply (cn h hx1).mono;rintro e W1 ⟨c8,rfl⟩;exact⟨z,(Kp.refl w b sb).trans c8.Db,z⟩
 rw[hx1,ay]at g;apply (cn h hx1).mono;rintro e W1 ⟨c8,rfl,h1⟩;have a7:=hs.kp c8 J C;have d2:=(Kp.refl w b sb).trans (c8.Db (b:=sb));let ⟨v0,c0⟩:=a7.cell (j:=0) (by decide)
 have f0:=a7.frozen 0;let ⟨v3,c3⟩:=a7.cell (j:=3) (by decide)
 have f3:=a7.frozen 3;have W:=a7;have U:=h1;have V:=d2;replace W:=W.kind 2;replace U:=U.Ee a5 hA 0 (I 2);replace V:=V.DY 0 (I 2);replace W:=W.name x1;replace U:=U.Ee a5 hA 3 (.string x1);replace V:=V.DY 3 (.string x1);have Q:=O (EQ W (EQ U V));go_wp2_with fail;let ⟨W,U,V⟩:=Q
 generalize ((W1.setCell (ad sb 0) (I 2)).setCell (ad sb 3) (.string x1))=W2 at *;apply (bD U ho).mono;rintro e W3 ⟨c9,rfl,X⟩;have b8:=W.kp c9 J C;have a0:=V.trans (c9.Db (b:=sb));let ⟨m,hm⟩:=eX (cr S.T j1 ho)
 rw[hm]at g X;rw[hm];cases m
 .rw[am FY]at g X;go_wp2_with fail;rcases hx4:aU S.T iE j1 with _| (j4|⟨x4,j4⟩)
  .rw[hx4]at g;cases g
  .rw[hx4]at g;cases g;apply (aX X iE hx4).mono;rintro e W4 ⟨K,rfl⟩;exact⟨z,a0.trans K.Db,z⟩
  rw[hx4,ay]at g;apply (aX X iE hx4).mono;rintro e W4 ⟨K,rfl,h4⟩;have a2:=b8.kp K J C;have Y:=a0.trans (K.Db (b:=sb));go_wp2_with fail;rcases hx5:pX S.T j4 with _| (j5|⟨x5,j5⟩)
  .rw[hx5]at g;cases g
  .rw[hx5]at g;cases g;apply (cV G h4 (hO.Eu Y G a6) hx5).mono;rintro e W5 ⟨b6,rfl⟩;exact⟨z,Y.trans b6.Db,z⟩
  rw[hx5,ay]at g;apply (cV G h4 (hO.Eu Y G a6) hx5).mono;rintro e W5 ⟨b6,⟨cs,rfl,hX⟩,E⟩;have A:=a2.kp b6 J C;have D:=Y.trans (b6.Db (b:=sb));have a3:=hX.part C a2.lt;have N:=A;have F:=E;have H:=D;have d8:=dV (N.there (o:=5) (n:=7) (by decide)) a3.cells.1 a3.cells.2;have e1:=a3.cells.1;replace N:=N.expr a3;replace F:=F.Ek a5 hA 5 cs;replace H:=Kp.Dv cs 5 H;have Q:=O (EQ N (EQ F H));go_wp2_with fail;let ⟨N,F,H⟩:=Q
  generalize (W5.setCells sb 5 cs)=W6 at *;rcases hx7:aU S.T aI j5 with _| (j7|⟨x7,j7⟩)
  .rw[hx7]at g;cases g
  .rw[hx7]at g;cases g;apply (aX F aI hx7).mono;rintro e W7 ⟨M,rfl⟩;exact⟨z,H.trans M.Db,z⟩
  rw[hx7,ay]at g;apply (aX F aI hx7).mono;rintro e W7 ⟨M,rfl,h7⟩;have a9:=N.kp M J C;have a4:=H.trans (M.Db (b:=sb));cases g;go_wp2;go_end0;exact⟨a4,z,a9,h7⟩
 .rw[aD rfl]at g X;go_wp2_with fail;rcases hx4:pX S.T (j1+1) with _| (j4|⟨x4,j4⟩)
  .rw[hx4]at g;cases g
  .rw[hx4]at g;cases g;apply (cV G X (hO.Eu a0 G a6) hx4).mono;rintro e W4 ⟨K,rfl⟩;exact⟨z,a0.trans K.Db,z⟩
  rw[hx4,ay]at g;apply (cV G X (hO.Eu a0 G a6) hx4).mono;rintro e W4 ⟨K,⟨cs,rfl,hX⟩,h4⟩;have a2:=b8.kp K J C;have Y:=a0.trans (K.Db (b:=sb));have b7:=hX.part C b8.lt;let ⟨v0,c0⟩:=a2.cell (j:=0) (by decide)
  have f0:=a2.frozen 0;have A:=a2;have E:=h4;have D:=Y;replace A:=A.kind 3;replace E:=E.Ee a5 hA 0 (I 3);replace D:=D.DY 0 (I 3);have d5:=dV (A.there (o:=12) (n:=7) (by decide)) b7.cells.1 b7.cells.2;have d6:=b7.cells.1;have a3:=mw b7 0 (I 3);replace A:=A.index a3;replace E:=E.Ek a5 hA 12 cs;replace D:=Kp.Dv cs 12 D;have Q:=O (EQ A (EQ E D));go_wp2_with fail;let ⟨A,E,D⟩:=Q
  generalize ((W4.setCell (ad sb 0) (I 3)).setCells sb 12 cs)=W5 at *;rcases hx6:aU S.T gx j4 with _| (j6|⟨x6,j6⟩)
  .rw[hx6]at g;cases g
  .rw[hx6]at g;cases g;apply (aX E gx hx6).mono;rintro e W6 ⟨b5,rfl⟩;exact⟨z,D.trans b5.Db,z⟩
  rw[hx6,ay]at g;apply (aX E gx hx6).mono;rintro e W6 ⟨b5,rfl,F⟩;have N:=A.kp b5 J C;have H:=D.trans (b5.Db (b:=sb));go_wp2_with fail;rcases hx7:aU S.T iE j6 with _| (j7|⟨x7,j7⟩)
  .rw[hx7]at g;cases g
  .rw[hx7]at g;cases g;apply (aX F iE hx7).mono;rintro e W7 ⟨M,rfl⟩;exact⟨z,H.trans M.Db,z⟩
  rw[hx7,ay]at g;apply (aX F iE hx7).mono;rintro e W7 ⟨M,rfl,h7⟩;have a9:=N.kp M J C;have a4:=H.trans (M.Db (b:=sb));go_wp2_with fail;rcases hx8:pX S.T j7 with _| (j8|⟨x8,j8⟩)
  .rw[hx8]at g;cases g
  .rw[hx8]at g;cases g;apply (cV G h7 (hO.Eu a4 G a6) hx8).mono;rintro e W8 ⟨b9,rfl⟩;exact⟨z,a4.trans b9.Db,z⟩
  rw[hx8,ay]at g;apply (cV G h7 (hO.Eu a4 G a6) hx8).mono;rintro e W8 ⟨b9,⟨cs,rfl,hX⟩,h8⟩;have d0:=a9.kp b9 J C;have d1:=a4.trans (b9.Db (b:=sb));have a8:=hX.part C a9.lt;have a1:=d0;have h9:=h8;have Z:=d1;have d9:=dV (a1.there (o:=5) (n:=7) (by decide)) a8.cells.1 a8.cells.2;have d7:=a8.cells.1;replace a1:=a1.expr a8;replace h9:=h9.Ek a5 hA 5 cs;replace Z:=Kp.Dv cs 5 Z;have Q:=O (EQ a1 (EQ h9 Z));go_wp2_with fail;let ⟨a1,h9,Z⟩:=Q
  generalize (W8.setCells sb 5 cs)=W9 at *;rcases hx10:aU S.T aI j8 with _| (e3|⟨e4,e3⟩)
  .rw[hx10]at g;cases g
  .rw[hx10]at g;cases g;apply (aX h9 aI hx10).mono;rintro e e0 ⟨b4,rfl⟩;exact⟨z,Z.trans b4.Db,z⟩
  rw[hx10,ay]at g;apply (aX h9 aI hx10).mono;rintro e e0 ⟨b4,rfl,e2⟩;have d4:=a1.kp b4 J C;have d3:=Z.trans (b4.Db (b:=sb));cases g;go_wp2;go_end0;exact⟨d3,z,d4,e2⟩
abbrev pe:=List (ByteArray×Fr×Nat)
def dK(p:ByteArray×Fr×Nat):MapEntry:=⟨.string p.1,p.2.1,p.2.2⟩
def eB(l:pe)(s:ByteArray):Option (ByteArray×Fr×Nat):=l.find? fun p=>decide (p.1=s)
theorem kM(s:ByteArray):∀ (l:pe) (i:Nat),∃j,Hc .string (.string s) (l.map dK) i=some ((eB l s).map fun p=> (j,p.2.1))
 | [],i=>⟨0,z⟩
 |p::l,i=>by
  let ⟨j,C⟩:=kM s l (i+1)
  let ⟨r,g,A⟩:=MapKept.sameNow_of_keys (d:= .string) (a:= .string s) (b:= .string p.1) (by simp[GQ]) (by simp[GQ])
  by_cases h:p.1=s
  .refine⟨i,?_⟩
   have w:=A.2 (by rw[h])
   subst w
   rw[h]at g
   simp[eB,Hc,g,dK,h]
  .refine⟨j,?_⟩
   have w:r=false:=by
    cases r
    .rfl
    .exact absurd (Value.string.inj (A.1 z)).symm h
   subst w
   simp only[List.map_cons,Hc,dK,g]
   simpa [eB,h]using C
theorem uX{l:pe}(h:w.1[g]? =some (.map (l.map dK).toArray n))(s:ByteArray):
  (Hx 86 (.map (some g)) (.string s) false).run prog w= .ok (((eB l s).map fun p=>p.2.1).getD .nilFunc) w:=by
 let ⟨j,G⟩:=kM s l 0
 have E:prog.underlying 86=some (.map 9 154):=by kernel_rfl
 have A:prog.underlying 9=some .string:=by kernel_rfl
 have F:(zeroValue 154).run prog w= .ok .nilFunc w:=by kernel_rfl
 have D:GQ .string (.string s):=by simp[GQ]
 have C:Hc .string (.string s) (l.map dK).toArray.toList 0=some ((eB l s).map fun p=> (j,p.2.1)):=by simpa using G
 rcases hf:eB l s with _|p
 .rw[hf]at C;simp[Hx,Hg E,GK h,GR A D,GW A C,F,Result.andThen]
 .rw[hf]at C;simp[Hx,Hg E,GK h,GR A D,GW A C,Result.andThen]
theorem yw{l:pe}(h:w.1[g]? =some (.map (l.map dK).toArray n))(s:ByteArray)(v:Fr)(D:eB l s=none):
  (HJ 86 (.map (some g)) (.string s) v).run prog w= .ok () {w with heap:=w.1.setIfInBounds g (.map ((l++[(s,v,n)]).map dK).toArray (n+1))}:=by
 let ⟨j,E⟩:=kM s l 0
 have F:prog.underlying 86=some (.map 9 154):=by kernel_rfl
 have A:prog.underlying 9=some .string:=by kernel_rfl
 have C:GQ .string (.string s):=by simp[GQ]
 have G:Hc .string (.string s) (l.map dK).toArray.toList 0=some none:=by simpa [D]using E
 simp[HJ,Hg F,GK h,GR A C,GW A G,HN _ h,Result.andThen,dK]
def hr(w:Fk)(b:Nat)(fv:Fr)(kind:Nat)(Ps:List Ig):Prop:=∃ (g1 g2:Nat) (a:Option Addr) (cap:Nat),
 fv= .func (.func 110) #[] #[.pointer (some ⟨g1,0,none⟩),.pointer (some ⟨g2,0,none⟩)]/\g1<b/\w.cell? ⟨g1,0,none⟩=some (.int .i64 (kind:Int))/\g2<b/\w.cell? ⟨g2,0,none⟩=some (.slice a Ps.length cap)/\
 ∀i,i<Ps.length->∃g3 off,a=some ⟨g3,off,none⟩/\g3<b/\w.cell? ⟨g3,off+i,none⟩=some (.func (.func (Ps.getD i 0)) #[] #[])
def jR(k:Nat):List Ig:=if k=1 then [63,68,66] else if k=8∨k=12 then [63,65] else if k=11 then [63,66] else if k=14 then [] else if k=15 then [66] else [63]
def gs(w:Fk)(b:Nat)(k:Nat)(v:Option Fr):Prop:=
 if k=0 then v=none else if k=4 then v=some (.func (.func 71) #[] #[]) else if k=5 then v=some (.func (.func 74) #[] #[]) else ∃fv,v=some fv/\hr w b fv k (jR k)
structure nj (w:Fk) (b:Nat) (S:bp):Prop where
 mp:∃ (g:Nat) (l:pe) (n:Nat),S.kv= .map (some g)/\g<b/\w.1[g]? =some (.map (l.map dK).toArray n)/\∀s,gs w b (bQ s) ((eB l s).map fun p=>p.2.1)
theorem hr.keep{w':Fk}{fv:Fr}{kind:Nat}{Ps:List Ig}(h:hr w b fv kind Ps)(K:∀c,c<w.1.size->c<b->w'.1[c]? =w.1[c]?):hr w' b fv kind Ps:=by
 let ⟨S,E,a,cap,V,A,Q,D,M,R⟩:=h
 have g:∀c o v,c<b->w.cell? (ad c o)=some v->w'.cell? (ad c o)=some v:=fun c o v J j=>by rw[<-j];simp[FI,K c (FF w _ j) J]
 refine⟨S,E,a,cap,V,A,g _ _ _ A Q,D,g _ _ _ D M,fun i F=>?_⟩;let ⟨G,N,H,C,U⟩:=R i F
 exact⟨G,N,H,C,g _ _ _ C U⟩
theorem nj.keep{w':Fk}(h:nj w b S)(D:∀c,c<w.1.size->c<b->w'.1[c]? =w.1[c]?):nj w' b S:=by
 let ⟨g,l,n,C,A,E,J⟩:=h.mp
 refine⟨g,l,n,C,A,(D g (FT.1 E).1 A).trans E,fun s=>?_⟩;have j:=J s;unfold gs at j ⊢;split
 .rw[aD (by assumption)]at j;exact j
 rename_i G;rw[am G]at j;split
 .rw[aD (by assumption)]at j;exact j
 rename_i C;rw[am C]at j;split
 .rw[aD (by assumption)]at j;exact j
 rename_i A;rw[am A]at j;let ⟨fv,H,F⟩:=j
 exact⟨fv,H,F.keep D⟩
theorem nj.kp{w':Fk}{sb:Nat}(h:nj w b S)(g:Kp w w' b sb)(A:b<=sb):nj w' b S:=h.keep fun c j C=>g.block c j (by omega) (by omega)
def xF(w:Fk)(l:List St)(e:GP)(w':Fk):Prop:=∃ (a:Option Addr) (cap:Nat),e= .returned (.slice a l.length cap)/\aF l.length cap/\aE (w.1.size<=·) w' a 0 l
def Ag(w:Fk)(s:St)(e:GP)(w':Fk):Prop:=∃cs:List Fr,e= .returned (.agg cs.toArray)/\bX (w.1.size<=·) w' cs s
def CB(b:Nat)(S:bp)(f:Nat):Prop:=∀ (w:Fk) (k:Nat) (R:Except Nat (List St×Nat)),Rw w b S k->hR w->nj w b S->pB S.T f k=some R->Jq prog 72 #[.pointer (some ⟨b,0,none⟩)] w (WP w b S R (xF w))
def CS(b:Nat)(S:bp)(f:Nat):Prop:=∀ (w:Fk) (k:Nat) (R:Except Nat (St×Nat)),Rw w b S k->hR w->nj w b S->pS S.T f k=some R->Jq prog 111 #[.pointer (some ⟨b,0,none⟩)] w (WP w b S R (Ag w))
def tP(b:Nat)(S:bp)(f:Ig)(caps:Array Fr)(g:St->Nat->PR St):Prop:=∀ (w:Fk) (B sb k:Nat) (st:St) (R:Except Nat (St×Nat)),Rw w b S k->hR w->nj w b S->oa S sb->b<B->B<=sb->Sb B w sb st->g st k=some R->
 Jq prog f (#[.pointer (some ⟨b,0,none⟩),.pointer (some ⟨sb,0,none⟩)]++caps) w (SP w b sb B S R)
theorem aE.part{B sb:Nat}{l:List St}(h:aE (W.1.size<=·) w a 0 l)(j:B<=sb)(A:sb<W.1.size):aE (fun c=>B<=c/\c≠sb) w a 0 l:=
 aE.CQ (fun c g=>by have:=g;exact⟨by omega,by omega⟩) h
def sN(T:List Wd)(f:Nat)(st:St)(k:Nat):PR St:=ap (pX T k) fun x j=>ap (pB T f j) fun c m=>some (.ok (((st.setKind 5).Dh x).setBody c,m))
def Cp(T:List Wd)(f:Nat)(st:St)(k:Nat):PR St:=ap (pX T k) fun x j=>ap (pB T f j) fun c m=>
 if cr T m gB=true then ap (pB T f (m+1)) fun d n=>some (.ok ((((st.setKind 4).Dh x).setBody c).DW d,n)) else some (.ok (((st.setKind 4).Dh x).setBody c,m))
theorem pm{f:Nat}(N:b≠0)(a4:CB b S f):tP b S 74 #[] (sN S.T f):=by
 intro w B sb k st R h X a5 hA hb W hs A;unfold sN at A;have a0:b≠sb:=by omega
 have a8:sb≠0:=by omega
 have a9:b<=sb:=by omega
 go_in;go_wp2_with fail;rcases hx1:pX S.T k with _| (K|⟨x1,K⟩)
 .rw[hx1]at A;cases A
 .rw[hx1]at A;cases A;apply (cV N h X hx1).mono;rintro e W1 ⟨J,rfl⟩;exact⟨z,(Kp.refl w b sb).trans J.Db,z⟩
 rw[hx1,ay]at A;apply (cV N h X hx1).mono;rintro e W1 ⟨J,⟨cs,rfl,hX⟩,h1⟩;have Z:=hs.kp J hb W;have b6:=(Kp.refl w b sb).trans (J.Db (b:=sb));have H:=hX.part W hs.lt;let ⟨v0,c0⟩:=Z.cell (j:=0) (by decide)
 have f0:=Z.frozen 0;have C:=Z;have D:=h1;have g:=b6;replace C:=C.kind 5;replace D:=D.Ee a0 hA 0 (I 5);replace g:=g.DY 0 (I 5);have b8:=dV (C.there (o:=5) (n:=7) (by decide)) H.cells.1 H.cells.2;have b9:=H.cells.1;have a7:=mw H 0 (I 5);replace C:=C.expr a7;replace D:=D.Ek a0 hA 5 cs;replace g:=Kp.Dv cs 5 g;have Q:=O (EQ C (EQ D g));go_wp2_with fail;let ⟨C,D,g⟩:=Q
 generalize ((W1.setCell (ad sb 0) (I 5)).setCells sb 5 cs)=W2 at *;rcases hx3:pB S.T f K with _| (j3|⟨Y,j3⟩)
 .rw[hx3]at A;cases A
 .rw[hx3]at A;cases A;apply (a4 _ K _ D (X.Eu g N a8) (a5.kp g a9) hx3).mono;rintro e W3 ⟨M,rfl⟩;exact⟨z,g.trans M.Db,z⟩
 rw[hx3,ay]at A;apply (a4 _ K _ D (X.Eu g N a8) (a5.kp g a9) hx3).mono;rintro e W3 ⟨M,⟨U,a1,rfl,c8,a2⟩,h3⟩;have V:=C.kp M hb W;have b4:=g.trans (M.Db (b:=sb));have a6:=a2.part W C.lt;let ⟨c9,c19⟩:=V.cell (j:=19) (by decide)
 have b7:=V.frozen 19;have G:=V;have F:=h3;have E:=b4;have b5:=a6;replace G:=G.body c8 b5;replace F:=F.Ee a0 hA 19 (.slice U Y.length a1);replace E:=E.DY 19 (.slice U Y.length a1);have Q:=O (EQ G (EQ F E));go_wp2;let ⟨G,F,E⟩:=Q
 generalize (W3.setCell (ad sb 19) (.slice U Y.length a1))=W4 at *;cases A;go_end0;exact⟨E,z,G,F⟩
theorem xs{f:Nat}(W:b≠0)(a5:CB b S f):tP b S 71 #[] (Cp S.T f):=by
 intro w B sb k st R h K a8 hA hb G hs g;unfold Cp at g;have a4:b≠sb:=by omega
 have b4:sb≠0:=by omega
 have b5:b<=sb:=by omega
 go_in;go_wp2_with fail;rcases hx1:pX S.T k with _| (j1|⟨x1,j1⟩)
 .rw[hx1]at g;cases g
 .rw[hx1]at g;cases g;apply (cV W h K hx1).mono;rintro e W1 ⟨a0,rfl⟩;exact⟨z,(Kp.refl w b sb).trans a0.Db,z⟩
 rw[hx1,ay]at g;apply (cV W h K hx1).mono;rintro e W1 ⟨a0,⟨cs,rfl,hX⟩,h1⟩;have a9:=hs.kp a0 hb G;have d7:=(Kp.refl w b sb).trans (a0.Db (b:=sb));have X:=hX.part G hs.lt;let ⟨v0,c0⟩:=a9.cell (j:=0) (by decide)
 have f0:=a9.frozen 0;have C:=a9;have D:=h1;have A:=d7;replace C:=C.kind 4;replace D:=D.Ee a4 hA 0 (I 4);replace A:=A.DY 0 (I 4);have d9:=dV (C.there (o:=5) (n:=7) (by decide)) X.cells.1 X.cells.2;have e1:=X.cells.1;have d1:=mw X 0 (I 4);replace C:=C.expr d1;replace D:=D.Ek a4 hA 5 cs;replace A:=Kp.Dv cs 5 A;have E:=O (EQ C (EQ D A));go_wp2_with fail;let ⟨C,D,A⟩:=E
 generalize ((W1.setCell (ad sb 0) (I 4)).setCells sb 5 cs)=W2 at *;rcases hx3:pB S.T f j1 with _| (Y|⟨x3,Y⟩)
 .rw[hx3]at g;cases g
 .rw[hx3]at g;cases g;apply (a5 _ j1 _ D (K.Eu A W b4) (a8.kp A b5) hx3).mono;rintro e W3 ⟨a1,rfl⟩;exact⟨z,A.trans a1.Db,z⟩
 rw[hx3,ay]at g;apply (a5 _ j1 _ D (K.Eu A W b4) (a8.kp A b5) hx3).mono;rintro e W3 ⟨a1,⟨a3,b9,rfl,e3,c8⟩,h3⟩;have a2:=C.kp a1 hb G;have d3:=A.trans (a1.Db (b:=sb));have d0:=c8.part G C.lt;let ⟨e5,c19⟩:=a2.cell (j:=19) (by decide)
 have d8:=a2.frozen 19;have M:=a2;have N:=h3;have H:=d3;have d4:aE (fun c=>B<=c/\c≠sb) W3 a3 0 x3:=d0;replace M:=M.body e3 d4;replace N:=N.Ee a4 hA 19 (.slice a3 x3.length b9);replace H:=H.DY 19 (.slice a3 x3.length b9);have E:=O (EQ M (EQ N H));go_wp2_with fail;let ⟨M,N,H⟩:=E
 generalize (W3.setCell (ad sb 19) (.slice a3 x3.length b9))=W4 at *;apply (bD N gB).mono;rintro e W5 ⟨b7,rfl,J⟩;have a7:=M.kp b7 hb G;have F:=H.trans (b7.Db (b:=sb));let ⟨m,hm⟩:=eX (cr S.T Y gB)
 rw[hm]at g J;rw[hm];cases m
 .rw[am FY]at g J;go_wp2;cases g;go_end0;exact⟨F,z,a7,J⟩
 .rw[aD rfl]at g J;go_wp2_with fail;rcases hx6:pB S.T f (Y+1) with _| (j6|⟨x6,j6⟩)
  .rw[hx6]at g;cases g
  .rw[hx6]at g;cases g;apply (a5 _ (Y+1) _ J (K.Eu F W b4) (a8.kp F b5) hx6).mono;rintro e W6 ⟨Z,rfl⟩;exact⟨z,F.trans Z.Db,z⟩
  rw[hx6,ay]at g;apply (a5 _ (Y+1) _ J (K.Eu F W b4) (a8.kp F b5) hx6).mono;rintro e W6 ⟨Z,⟨a6,b8,rfl,e4,c9⟩,h6⟩;have b6:=a7.kp Z hb G;have d6:=F.trans (Z.Db (b:=sb));have d2:=c9.part G a7.lt;let ⟨e6,e0⟩:=b6.cell (j:=20) (by decide)
  have e2:=b6.frozen 20;have Q:=b6;have V:=h6;have U:=d6;have d5:aE (fun c=>B<=c/\c≠sb) W6 a6 0 x6:=d2;replace Q:=Q.els e4 d5;replace V:=V.Ee a4 hA 20 (.slice a6 x6.length b8);replace U:=U.DY 20 (.slice a6 x6.length b8);have E:=O (EQ Q (EQ V U));go_wp2;let ⟨Q,V,U⟩:=E
  generalize (W6.setCell (ad sb 20) (.slice a6 x6.length b8))=W7 at *;cases g;go_end0;exact⟨U,z,Q,V⟩
def ia:List (St->Nat->PR St)->St->Nat->PR St
 | [],st,k=>some (.ok (st,k))
 |g::r,st,k=>ap (g st k) fun st' j=>ia r st' j
theorem ue{G:List (St->Nat->PR St)}{g:St->Nat->PR St}(h:G[i]? =some g)(st:St)(k:Nat):ia (G.drop i) st k=ap (g st k) fun A j=>ia (G.drop (i+1)) A j:=by obtain⟨w,rfl⟩:=List.getElem?_eq_some_iff.1 h;rw[List.drop_eq_getElem_cons w,ia]
theorem pq(a3:b≠0){B sb kind:Nat}{st:St}{R:Except Nat (St×Nat)}{fv:Fr}{C:List Ig}{G:List (St->Nat->PR St)}(hG:∀i,i<C.length->∃g,G[i]? =some g/\(C.getD i 0=63∨C.getD i 0=65∨C.getD i 0=66∨C.getD i 0=68)/\iT b S (C.getD i 0) g)(a7:G.length=C.length)
  (h:Rw w b S k)(hO:hR w)(hP:hr w b fv kind C)(hA:oa S sb)(hb:b<B)(hB:B<=sb)(V:Sb B w sb st)(A:(ap (ia G (st.setKind kind) k) fun E j=>oH S.T E j)=some R)(hn:C.length<10):
  ∃Q N:Nat,fv= .func (.func 110) #[] #[Pt Q,Pt N]/\Jq prog 110 #[Pt b,Pt sb,Pt Q,Pt N] w (SP w b sb B S R):=by
 let ⟨Q,N,a,cap,a6,b9,c1,b7,c2,a5⟩:=hP
 refine⟨Q,N,a6,?_⟩;have a8:b≠sb:=by omega
 have a4:sb≠0:=by omega
 have c8:Q≠sb:=by omega
 have b4:N≠sb:=by omega
 let ⟨v0,c0⟩:=V.cell (j:=0) (by decide)
 have f0:=V.frozen 0;have M:=V.kind (kind:Int);have H:=h.Ee a8 hA 0 (I kind);have D:=(Kp.refl w b sb).DY 0 (I kind);have a2:=a5;have d2:(w.setCell (ad sb 0) (I kind)).cell? (ad N 0)=some (.slice a C.length cap):=(Ih w (ad sb 0) (ad N 0) _ (Gp b4)).trans c2;have W:=O (EQ M (EQ H D));have HP:=O a2;clear M H D a5 a2 h V;go_in;go_wp2;clear c0 c1 c2 d2;generalize w.setCell (ad sb 0) (I kind)=W1 at *;have U:=O A;clear A;let ⟨K,hN⟩:=eX (C.length)
 rw[hN]at hn ⊢;have HN:=O hN;clear hN;go_loopg [14] K (fun x iv wr=>∃ (i:Nat) (E:St) (j:Nat),i<=K/\x=K-i/\iv=I i/\Hid ((ap (ia (G.drop i) E j) fun E j=>oH S.T E j)=some R)/\Hid (Sb B wr sb E/\Rw wr b S j/\Kp w wr b sb))
 .exact⟨0,_,k,Nat.zero_le _,z,z,U,W⟩
 .obtain⟨i,E,j,hi,rfl,rfl,U,W⟩:=hrel;by_cases a1:i<K
  .let ⟨g,hg,h4,a0⟩:=hG i (by rw[HN.o];exact a1)
   obtain⟨c9,X,rfl,b8,c3⟩:=HP i (by rw[HN.o];exact a1);let ⟨M,H,D⟩:=W
   have d3:wr.cell? (ad c9 (X+i))=some (.func (.func (C.getD i 0)) #[] #[]):=by rw[<-c3];have:=D.block c9 (FF w _ c3) (by omega) (by omega);simp[FI,this]
   clear c3;have b6:(i:Int)< (K:Int):=by omega
   let ⟨F,hF⟩:=eX (C.getD i 0)
   rw[hF]at d3 a0 h4;clear hF;have A:=U.o;rw[ue hg]at A;rw[gp]at A;rcases h4 with rfl|rfl|rfl|rfl;all_goals
    go_wp2_with fail;rcases hx:g E j with _| (j2|⟨x,j2⟩)
    .rw[hx]at A;cases A
    .rw[hx]at A;cases A;apply (a0 wr B sb j E _ H (hO.Eu D a3 a4) hA hb hB M hx).mono;rintro e W2 ⟨J,rfl⟩;exact⟨z,D.trans J,z⟩
    .rw[hx,ay]at A;apply (a0 wr B sb j E _ H (hO.Eu D a3 a4) hA hb hB M hx).mono;rintro e W2 ⟨J,rfl,Y,Z⟩;have b5:=O (EQ Y (EQ Z (D.trans J)));have a9:=O A;clear Y Z J M H D A a0 d3;go_wp2;go_roundg (K- (i+1))
     .exact⟨i+1,x,j2,by omega,z,by simp,a9,b5⟩
     .omega
  .obtain rfl:i=K:=by omega
   have b6:¬ ((i:Int)< (i:Int)):=by omega
   have A:=U.o;let ⟨M,H,D⟩:=W
   rw[List.drop_eq_nil_of_le (by rw[a7,HN.o];exact FL _),ia,ay,oH]at A;go_wp2_with fail;rcases hx:aU S.T aI j with _| (j2|⟨x,j2⟩)
   .rw[hx]at A;cases A
   .rw[hx]at A;cases A;apply (aX H aI hx).mono;rintro e W2 ⟨J,rfl⟩;exact⟨z,D.trans J.Db,z⟩
   .rw[hx,ay]at A;cases A;apply (aX H aI hx).mono;rintro e W2 ⟨J,rfl,Z⟩;have Y:=M.kp J hb hB;go_wp2;go_end0;exact⟨D.trans J.Db,z,Y,Z⟩
end Go.Proofs.YtgppcdfgdaggjaaGreatDoor
