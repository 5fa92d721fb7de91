/- Texts laid together. No condition but what each law says. -/
import Derived.Test.YtgppcdfgdaggjaaGreatDoorR49
import Derived.Test.YtgppcdfgdaggjaaGreatDoorR11
import Derived.Deep.Cut
set_option maxRecDepth 100000
set_option maxHeartbeats 4000000
namespace Go.Proofs.YtgppcdfgdaggjaaGreatDoor
open Go.RowKit Go.Maps
variable {U V W w w0:World}{a:Option Addr}{b c j k:Nat}{A:Act}{s s6 t:ByteArray}{u0 u1 u2 u3 v0 v1 v2 v3 v4 v5 v6 v7 v8 v9:Value}
theorem Wds.belowR{w':World}{B:Nat}{l:List Wd}(h:Wds w a l)(H:Below B w w')(D:w.1.size<=B):Wds w' a l:=by intro i K;obtain⟨b,G,C,j,E,F,A,J⟩:=h i K;have M:=World.block_lt_of_cell? w _ j;have g:∀o,w'.cell? ⟨b,o,none⟩=w.cell? ⟨b,o,none⟩:=fun o=>H.cell (p:=⟨b,o,none⟩) (Nat.lt_of_lt_of_le M D);exact⟨b,G,C,(g _).trans j,(g _).trans E,(g _).trans F,(g _).trans A,(g _).trans J⟩
theorem Wds.kp{w':World}{l:List Wd}(h:Wds w a l)(G:Kp w w' b b)(H:∀g o,a=some ⟨g,o,none⟩->g≠b):Wds w' a l:=by
 intro i N;obtain⟨g,C,A,D,J,K,F,M⟩:=h i N;have Q:=World.block_lt_of_cell? w _ D;have E:=H g C A;have j:∀o,w'.cell? ⟨g,o,none⟩=w.cell? ⟨g,o,none⟩:=fun o=>by have:=G.block g Q E E;simp[World.cell?,this]
 exact⟨g,C,A,(j _).trans D,(j _).trans J,(j _).trans K,(j _).trans F,(j _).trans M⟩
structure Src where
 a:Option Addr
 cap:Nat
 T:List Wd
 en:Int×Int
 kv:Value
variable {S:Src}
structure Rw (w:World) (b:Nat) (S:Src) (k:Nat):Prop where
 hd:w.1[b]? =some (.cells #[.slice S.a S.T.length S.cap,.int .i64 (k:Int),.int .i64 S.en.1,.int .i64 S.en.2,S.kv] 89 (0,0))
 wds:Wds w S.a S.T
 ne:∀g o,S.a=some ⟨g,o,none⟩->g≠b
 le:k<=S.T.length
 mx:S.T.length<=1000000
theorem Rw.lt(h:Rw w b S k):b<w.1.size:=(Array.getElem?_eq_some_iff.1 h.hd).1
theorem Rw.below{w':World}(h:Rw w b S k)(g:bL w w'):Rw w' b S k:=
 ⟨(g.block b h.lt).trans h.hd,h.wds.belowR g rl,h.ne,h.le,h.mx⟩
theorem Rw.fin(h:Rw w b S k)(g:Rw W b S j)(C:Kp w V b b)(A:V.1[b]? =W.1[b]?):Rw V b S j:=
 ⟨A.trans g.hd,h.wds.kp C h.ne,g.ne,g.le,g.mx⟩
def nextW(T:List Wd)(en:Int×Int)(k:Nat):Wd:=if k<T.length then T.getD k default else ⟨0,noB,0,en.1,en.2⟩
theorem kindN(T:List Wd)(en:Int×Int)(k:Nat):(nextW T en k).kind=kindAt T k:=by unfold nextW kindAt;split<;>rfl
theorem Rw.alloc(h:Rw w b S k)(o:Obj):Rw (w.alloc o) b S k:=h.below ((Below.refl _ w).alloc rl o)
theorem Rw.drewN(h:Rw w b S k)(n:Nat):Rw (w.drewN n) b S k:=⟨h.hd,h.wds,h.ne,h.le,h.mx⟩
theorem Rw.c0(h:Rw w b S k):w.cell? ⟨b,0,none⟩=some (.slice S.a S.T.length S.cap):=by simp[World.cell?,h.hd]
theorem Rw.c1(h:Rw w b S k):w.cell? ⟨b,1,none⟩=some (I k):=by simp[World.cell?,h.hd]
theorem Rw.c2(h:Rw w b S k):w.cell? ⟨b,2,none⟩=some (I S.en.1):=by simp[World.cell?,h.hd]
theorem Rw.c3(h:Rw w b S k):w.cell? ⟨b,3,none⟩=some (I S.en.2):=by simp[World.cell?,h.hd]
theorem Rw.c4(h:Rw w b S k):w.cell? ⟨b,4,none⟩=some S.kv:=by simp[World.cell?,h.hd]
theorem Rw.frozen(h:Rw w b S k)(j:Nat):w.frozen? ⟨b,j,none⟩=false:=by simp[World.frozen?,h.hd]
theorem below_drewN{w':World}{B:Nat}(h:Below B w w')(n:Nat):Below B w (w'.drewN n):=⟨h.os,h.tape,h.output,h.size,h.block⟩
theorem kp_same{w':World}(h:bL w w'):Kp w w' b b:=Kp.below h
theorem end_tk1{g:Func}{R:Ending->World->Prop}{s:Tmp}{kind num:Int}{p:Int×Int}(h:Tk W b kind t num p)(w:g.results= #[.cell s 142])
  (J:A.tmps.getD s undef=Pt b)(hd:A.defers=[])(E:R (.returned (.agg #[I kind,.string t,I num,I p.1,I p.2])) W):bodyPost Tryz.prog g R .ret A W:=by
 have G:=h.c0;have j:=h.c1;have C:=h.c2;have H:=h.c3;have F:=h.c4;have D:A.tmps[s]?.getD undef=Pt b:=by rw[<-J];simp
 refine bodyPost_ret (v:= .agg #[I kind,.string t,I num,I p.1,I p.2]) ?_ hd E;simp[results,w,go_sem,D,G,j,C,H,F]
theorem peek_any(h:Rw w b S k):
  Calls Tryz.prog 112 #[Pt b] w fun e w'=>e= .returned (nextW S.T S.en k).val/\Below w.1.size w w':=by
 have a8:=h.le;have a9:=h.mx;go_enter Tryz.func112,Tryz.ntmps112;go_wp2_with fail;have Q:Below w.1.size w (w.alloc (.cells #[I 0,.string ⟨#[]⟩,I 0,I 0,I 0] 142)):=(Below.refl _ w).alloc (Nat.le_refl _) _;have A:=h.below Q;have j:Tk (w.alloc (.cells #[.int .i64 0,.string ⟨#[]⟩,.int .i64 0,.int .i64 0,.int .i64 0] 142)) w.1.size 0 ⟨#[]⟩ 0 (0,0):=World.alloc_heap_new _ _;generalize w.alloc (.cells #[I 0,.string ⟨#[]⟩,I 0,I 0,I 0] 142)=W at *;obtain⟨z,Y⟩:∃z,w.1.size=z:=⟨_,rfl⟩;rw[Y]at Q j ⊢;have HZ:=O Y;clear Y
 have fin:∀ (n:Nat) (M:Int) (C:ByteArray) (n2 x y:Int),Tk (((((((W.drewN n).setCell ⟨z,0,none⟩ (I M)).setCell ⟨z,1,none⟩ (.string C)).setCell ⟨z,2,none⟩ (I n2)).setCell ⟨z,3,none⟩ (I x)).setCell ⟨z,4,none⟩ (I y))) z M C n2 (x,y)/\Below z w ((((((W.drewN n).setCell ⟨z,0,none⟩ (I M)).setCell ⟨z,1,none⟩ (.string C)).setCell ⟨z,2,none⟩ (I n2)).setCell ⟨z,3,none⟩ (I x)).setCell ⟨z,4,none⟩ (I y)):=by intro n M C n2 x y;refine⟨(j.drewN n).set5 M C n2 x y,?_⟩;exact(((((below_drewN Q n).setCell (p:=⟨z,0,none⟩) (Nat.le_refl _) _).setCell (p:=⟨z,1,none⟩) (Nat.le_refl _) _).setCell (p:=⟨z,2,none⟩) (Nat.le_refl _) _).setCell (p:=⟨z,3,none⟩) (Nat.le_refl _) _).setCell (p:=⟨z,4,none⟩) (Nat.le_refl _) _
 have R:=O fin;have c0:=A.c0;have c1:=A.c1;have c2:=A.c2;have c3:=A.c3;have c4:=A.c4;have hW:=A.wds;obtain⟨a,cap,T,en,kv⟩:=S;dsimp only at *;have E:=j.frozen;have f0:=E 0;have f1:=E 1;have f2:=E 2;have f3:=E 3;have f4:=E 4;clear fin Q A E;by_cases hk:k=T.length
 .subst hk;go_quiet (fail);rename_i nq;have d2:(W.drewN nq).cell? ⟨b,2,none⟩=_:=c2;have d3:(W.drewN nq).cell? ⟨b,3,none⟩=_:=c3;have a7:(W.drewN nq).cell? ⟨z,0,none⟩=_:=j.c0;have t1:(W.drewN nq).cell? ⟨z,1,none⟩=_:=j.c1;have C:(W.drewN nq).cell? ⟨z,2,none⟩=_:=j.c2;have t3:(W.drewN nq).cell? ⟨z,3,none⟩=_:=j.c3;have t4:(W.drewN nq).cell? ⟨z,4,none⟩=_:=j.c4;have g0:(W.drewN nq).frozen? ⟨z,0,none⟩=false:=f0;have g1:(W.drewN nq).frozen? ⟨z,1,none⟩=false:=f1;have g2:(W.drewN nq).frozen? ⟨z,2,none⟩=false:=f2;have g3:(W.drewN nq).frozen? ⟨z,3,none⟩=false:=f3;have g4:(W.drewN nq).frozen? ⟨z,4,none⟩=false:=f4;go_wp2_with fail
  refine end_tk1 (R.o nq 0 ⟨#[]⟩ 0 en.1 en.2).1 rfl rfl rfl ⟨?_,by rw[HZ.o];exact(R.o nq 0 ⟨#[]⟩ 0 en.1 en.2).2⟩;unfold nextW;rw[if_neg (Nat.lt_irrefl _)];rfl
 .have a1:¬ ((k:Int)=(T.length:Int)):=by omega
  have Z:k<T.length:=by omega
  have b4:(0:Int)<=(k:Int):=by omega
  have a6:(k:Int)< (T.length:Int):=by omega
  obtain⟨D,F,rfl,K,N,H,J,G⟩:=hW k Z;obtain⟨wd,a2⟩:∃wd,T.getD k default=wd:=⟨_,rfl⟩;rw[a2]at K N H J G;have HN:=O (show nextW T en k=wd by unfold nextW;rw[if_pos Z];exact a2);obtain⟨V,hN⟩:∃V,T.length=V:=⟨_,rfl⟩;rw[hN]at c0 a1 a6 Z a9;clear a2 hN a8;go_quiet (fail);rename_i nq;have a3:((k:Int)==(V:Int))=false:=by simpa using a1
  rw[a3];obtain⟨g,X⟩:∃g,W.drewN nq=g:=⟨_,rfl⟩;have a5:(g.cell? ⟨b,0,none⟩=some (.slice (some ⟨D,F,none⟩) V cap)/\g.cell? ⟨b,1,none⟩=some (I k))/\(g.cell? ⟨D,F+k*5,none⟩=some (I wd.kind)/\g.cell? ⟨D,F+k*5+1,none⟩=some (.string wd.text)/\g.cell? ⟨D,F+k*5+2,none⟩=some (I wd.num)/\g.cell? ⟨D,F+k*5+3,none⟩=some (I wd.line)/\g.cell? ⟨D,F+k*5+4,none⟩=some (I wd.col))/\Tk g z 0 ⟨#[]⟩ 0 (0,0):=by rw[<-X];exact⟨⟨c0,c1⟩,⟨K,N,H,J,G⟩,j⟩
  have a0:=R.o (nq+1);rw[show W.drewN (nq+1)=g.drew by rw[<-X];rfl]at a0;have a4:=O a0;rw[X];clear X a0 c0 c1 c2 c3 c4 K N H J G j f0 f1 f2 f3 f4 hW R a3 hk a1 h;obtain⟨⟨c0,c1⟩,⟨K,N,H,J,G⟩,j⟩:=a5;go_wp2_with fail;go_still_tail 10,(by kernel_rfl);change wpList _ _ _ _ _ g.drew;have a7:g.drew.cell? ⟨z,0,none⟩=_:=j.c0;have t1:g.drew.cell? ⟨z,1,none⟩=_:=j.c1;have C:g.drew.cell? ⟨z,2,none⟩=_:=j.c2;have t3:g.drew.cell? ⟨z,3,none⟩=_:=j.c3;have t4:g.drew.cell? ⟨z,4,none⟩=_:=j.c4;have g0:g.drew.frozen? ⟨z,0,none⟩=false:=j.frozen 0;have g1:g.drew.frozen? ⟨z,1,none⟩=false:=j.frozen 1;have g2:g.drew.frozen? ⟨z,2,none⟩=false:=j.frozen 2;have g3:g.drew.frozen? ⟨z,3,none⟩=false:=j.frozen 3
  have g4:g.drew.frozen? ⟨z,4,none⟩=false:=j.frozen 4;clear c0 c1 K N H J G j;generalize g.drew=U at *;go_wp2_with fail;refine end_tk1 (a4.o wd.kind wd.text wd.num wd.line wd.col).1 rfl rfl rfl ⟨?_,by rw[HZ.o];exact(a4.o wd.kind wd.text wd.num wd.line wd.col).2⟩;rw[HN.o];rfl
theorem str_eq(x y:ByteArray):decide (x=y)=(x.toList==y.toList):=by
 by_cases h:x=y
 .subst h;simp
 .have:¬x.toList=y.toList:=fun e=>h (by
   have g:x.data.toList=y.data.toList:=by simpa [ByteArray.toList_eq]using e
   exact ByteArray.ext (Array.toList_inj.1 g))
  simp[h,this]
theorem isT_next{T:List Wd}{en:Int×Int}:isT T k s=((decide ((nextW T en k).kind=3)||decide ((nextW T en k).kind=4))&&decide ((nextW T en k).text=s)):=by
 unfold isT nextW;by_cases h:k<T.length
 .simp[h]
 .simp[h]
theorem Rw.step(h:Rw w b S k)(g:k<S.T.length):Rw (w.setCell ⟨b,1,none⟩ (I ((k:Int)+1))) b S (k+1):=by have A:=heap_set (j:=1) h.hd (I ((k:Int)+1));refine⟨?_,h.wds.kp ((Kp.refl w b b).setA 1 _) h.ne,h.ne,g,h.mx⟩;rw[A];simp
theorem accept_any(h:Rw w b S k)(s:ByteArray):
  Calls Tryz.prog 73 #[Pt b,.string s] w fun e w'=>Kp w w' b b/\e= .returned (.bool (isT S.T k s))/\Rw w' b S (if isT S.T k s=true then k+1 else k):=by
 have a3:=h.mx;have a2:=h.le;obtain⟨r,HR⟩:=eX (isT S.T k s);have HT:r=true->k<S.T.length:=fun e=>isT_lt S.T (HR.trans e);rw[isT_next (en:=S.en)]at HR;have R:=peek_any h;obtain⟨wd,V⟩:=eX (nextW S.T S.en k);rw[V]at HR R;rw[isT_next (en:=S.en),V,HR];obtain⟨kd,E,W,K,M⟩:=wd;obtain⟨U,J⟩:=eX ((if r=true then k+1 else k));have HK:=O J;rw[J];go_in;go_wp2_with fail;apply R.mono;rintro e w1 ⟨rfl,H⟩;have a0:=h.below H;simp only[Wd.val];have Q:∀x:Int,bL w (w1.alloc (.cells #[I x,.string E,I W,I K,I M] 142)):=fun x=>H.alloc H.size _;have j:=O (fun x=>And.intro (Q x) (h.below (Q x)));have c1:∀x:Int,(w1.alloc (.cells #[I x,.string E,I W,I K,I M] 142)).cell? ⟨b,1,none⟩=some (I k):=fun x=>by exact(j x).2.c1
 have f1:∀x:Int,(w1.alloc (.cells #[I x,.string E,I W,I K,I M] 142)).frozen? ⟨b,1,none⟩=false:=fun x=> (j x).2.frozen 1;have a1:=O (show decide (E=s)=(E.toList==s.toList) from str_eq E s);have G:∀q:Bool,((decide (kd=3)||decide (kd=4))&& (E.toList==s.toList))=q->r=q/\U=(if q=true then k+1 else k)/\(q=true->k<S.T.length):=fun q hq=>by have Y:=HR;rw[a1.o,hq]at Y;subst Y;exact⟨z,HK.symm,HT⟩
 go_wp2
 .rename_i C A;obtain⟨g,D,F⟩:=G false (by simp at A;simp[C,A]);go_ret;exact⟨kp_same (j _).1,by subst g;rfl,by rw[D];exact(j _).2⟩
 .rename_i C A;obtain⟨g,D,F⟩:=G true (by simp at A;simp[C,A]);go_ret;exact⟨(kp_same (j _).1).setA 1 _,by subst g;rfl,by rw[D,if_pos rfl];exact(j _).2.step (F z)⟩
 .rename_i N C A;obtain⟨g,D,F⟩:=G false (by simp at A;simp[C,A]);go_ret;exact⟨kp_same (j _).1,by subst g;rfl,by rw[D];exact(j _).2⟩
 .rename_i N C A;obtain⟨g,D,F⟩:=G true (by simp at A;simp[C,A]);go_ret;exact⟨(kp_same (j _).1).setA 1 _,by subst g;rfl,by rw[D,if_pos rfl];exact(j _).2.step (F z)⟩
 .rename_i C N;obtain⟨g,D,F⟩:=G false (by simp[C,N]);go_ret;exact⟨kp_same (j _).1,by subst g;rfl,by rw[D];exact(j _).2⟩
def flawM(S:Src)(k:Nat):PanicEntry:={v:= .iface 160 (.agg #[.int .i64 (nextW S.T S.en k).line,.int .i64 (nextW S.T S.en k).col]),recovered:=false}
def WP{α:Type}(w:World)(b:Nat)(S:Src)(R:Except Nat (α×Nat))(ok:α->Ending->World->Prop)(e:Ending)(w':World):Prop:=
 Kp w w' b b/\match R with
  | .ok (x,j)=>ok x e w'/\Rw w' b S j
  | .error j=>e= .panicked [flawM S j]
theorem field_p(kd:Int)(A:ByteArray)(C j g:Int)(w:World):(Instr.field 142 (.agg #[I kd,.string A,I C,I j,I g]) 3).run Tryz.prog w= .ok (.agg #[I j,I g]) w:=by kernel_rfl
theorem field_t(kd:Int)(g:ByteArray)(C A j:Int)(w:World):(Instr.field 142 (.agg #[I kd,.string g,I C,I A,I j]) 1).run Tryz.prog w= .ok (.string g) w:=by kernel_rfl
theorem field_n(kd:Int)(A:ByteArray)(g C j:Int)(w:World):(Instr.field 142 (.agg #[I kd,.string A,I g,I C,I j]) 2).run Tryz.prog w= .ok (I g) w:=by kernel_rfl
theorem fail_any(h:Rw w b S k):
  Calls Tryz.prog 109 #[Pt b] w fun e w'=>e= .panicked [flawM S k]/\bL w w':=by
 have g:=peek_any h;unfold flawM;obtain⟨wd,E⟩:=eX (nextW S.T S.en k);rw[E]at g ⊢;obtain⟨kd,C,F,A,D⟩:=wd;have G:=field_p kd C F A D;go_in;go_wp2_with fail;apply g.mono;rintro e w1 ⟨rfl,j⟩;simp only[Wd.val];go_wp2;exact⟨z,z,j⟩
theorem want_any(h:Rw w b S k)(s:ByteArray){R:Except Nat (Unit×Nat)}(j:want S.T s k=some R):
  Calls Tryz.prog 69 #[Pt b,.string s] w (WP w b S R fun _ e _=>e= .returned (.tuple #[])):=by
 have D:=accept_any h s;unfold want at j;obtain⟨r,C⟩:=eX (isT S.T k s);rw[C]at D j;go_in;go_wp2_with fail;apply D.mono;rintro e w1 ⟨A,rfl,g⟩;cases r
 .cases j;simp only[Bool.false_eq_true,if_false]at g;go_wp2_with fail;apply (fail_any g).mono;rintro e w2 ⟨rfl,E⟩;exact⟨z,A.trans (kp_same E),z⟩
 .cases j;simp only[if_true]at g;go_wp2;go_end0;exact⟨A,z,g⟩
def takeK(T:List Wd)(kd:Int)(i:Nat):Except Nat (Wd×Nat):=if kindAt T i=kd then .ok (T.getD i default,i+1) else .error i
theorem take_any(h:Rw w b S k)(q:Int)(hq:q≠0):
  Calls Tryz.prog 106 #[Pt b,I q] w (WP w b S (takeK S.T q k) fun x e _=>e= .returned x.val):=by
 have b9:=h.mx;have b8:=h.le;have hp:=peek_any (h.alloc (.cells #[I 0,.string ⟨#[]⟩,I 0,I 0,I 0] 142));have a2:=kindN S.T S.en k;have Q:kindAt S.T k=q->nextW S.T S.en k=S.T.getD k default/\k<S.T.length:=fun e=>by have G:=kind_lt S.T (by rw[e];exact hq);exact⟨by unfold nextW;rw[if_pos G],G⟩
 obtain⟨wd,a7⟩:=eX (nextW S.T S.en k);rw[a7]at hp a2 Q;clear a7;obtain⟨kd,D,J,E,F⟩:=wd;have HL:=O Q;have HD:=O (show kd=kindAt S.T k from a2);obtain⟨R,hR⟩:=eX (takeK S.T q k);have HR:=O hR;rw[hR];clear Q a2 hR;go_in;go_wp2_with fail;apply hp.mono;rintro e w1 ⟨rfl,C⟩;simp only[Wd.val];have h0:=h.alloc (.cells #[I 0,.string ⟨#[]⟩,I 0,I 0,I 0] 142);have Z:Tk (w.alloc (.cells #[.int .i64 0,.string ⟨#[]⟩,.int .i64 0,.int .i64 0,.int .i64 0] 142)) w.1.size 0 ⟨#[]⟩ 0 (0,0):=World.alloc_heap_new _ _;have a3:bL w (w.alloc (.cells #[I 0,.string ⟨#[]⟩,I 0,I 0,I 0] 142)):=(Below.refl _ w).alloc rl _;have b6:(w.alloc (.cells #[I 0,.string ⟨#[]⟩,I 0,I 0,I 0] 142)).1.size=w.1.size+1:=by simp
 generalize w.alloc (.cells #[I 0,.string ⟨#[]⟩,I 0,I 0,I 0] 142)=W0 at *;have c8:=h.lt;have G:=h0.below C;have a1:=Z.of (C.block _ Z.lt);have K:=a3.trans (C.mono (by omega));have b7:=C.size;have M:Tk (w1.alloc (.cells #[.int .i64 kd,.string D,.int .i64 J,.int .i64 E,.int .i64 F] 142)) w1.1.size kd D J (E,F):=World.alloc_heap_new _ _;have a0:=a1.alloc (.cells #[I kd,.string D,I J,I E,I F] 142);have H:=G.alloc (.cells #[I kd,.string D,I J,I E,I F] 142);have V:=K.alloc K.size (.cells #[I kd,.string D,I J,I E,I F] 142);have HH:=O h;obtain⟨z,hz⟩:=eX (w.1.size);have b4:w1.1.size≠z:=by omega
 have a9:w1.1.size≠b:=by omega
 have a4:z≠b:=by omega
 have HZ:=O hz;rw[hz]at a1 a0 K V ⊢;by_cases a6:kd=q
 .subst a6;obtain⟨a5,Q⟩:=HL HD.symm;have Y:R= .ok (S.T.getD k default,k+1):=by rw[<-HR.o];unfold takeK;rw[if_pos HD.o.symm]
  rw[<-a5]at Y;subst Y;have X:=H.step Q;have U:=(Kp.below (a:=b) (b:=b) (h:=by unfold bL;rw[hz];exact V)).setA 1 (I ((k:Int)+1));have c1:=H.c1;have f1:=H.frozen 1;have A:=M.other a9 1 (I ((k:Int)+1));have g:=a0.other a4 1 (I ((k:Int)+1));have y0:=M.c0;have x0:=A.c0;have x1:=A.c1;have x2:=A.c2;have x3:=A.c3;have x4:=A.c4;have b5:=g.c0;have t1:=g.c1;have t2:=g.c2;have t3:=g.c3;have t4:=g.c4;have g0:=g.frozen;have HE:=O (And.intro g (And.intro X U));clear g X U A M a0 H V a1 G h0 K a3 C Z hp h a5;go_wp2;obtain⟨g,X,U⟩:=HE;have j:∀ {W:World} (t:Nat) (v:Value),Kp w W b b->Kp w (W.setCell ⟨z,t,none⟩ v) b b:=fun t v h=>h.setNew (by rw[HZ.o];exact Nat.le_refl _) t v
  have N:∀ (W:World) (t:Nat) (v:Value),(W.setCell ⟨z,t,none⟩ v).1[b]? =W.1[b]? :=fun W t v=>Below.heap_setCell W ⟨z,t,none⟩ v b (Ne.symm a4);refine end_tk1 (g.set5 kd D J E F) rfl rfl rfl ⟨?_,?_,?_⟩
  .exact j _ _ (j _ _ (j _ _ (j _ _ (j _ _ U))))
  .rfl
  .apply HH.fin X (j _ _ (j _ _ (j _ _ (j _ _ (j _ _ U)))));rw[N,N,N,N,N]
 .have Y:R= .error k:=by rw[<-HR.o];unfold takeK;rw[if_neg (fun e=>a6 (HD.o.trans e))]
  subst Y;have y0:=M.c0;have HE:=O (And.intro H V);clear M a0 H V a1 G h0 K a3 C Z hp h;go_wp2_with fail;apply (fail_any HE.1).mono;rintro e w2 ⟨rfl,a8⟩;refine⟨rfl,?_,rfl⟩;have:=HE.2;rw[<-HZ.o]at this;exact(kp_same this).trans (kp_same a8)
theorem name_rd(h:Rw w b S k){R:Except Nat (ByteArray×Nat)}(g:pName S.T k=some R):
  Calls Tryz.prog 64 #[Pt b] w (WP w b S R fun x e _=>e= .returned (.string x)):=by
 have A:=take_any h 1 (by decide);unfold takeK at A;unfold pName at g;obtain⟨q,D⟩:=eX (kindAt S.T k);rw[D]at A g;obtain⟨x,E⟩:=eX (S.T.getD k default);rw[E]at A g;obtain⟨kd,G,K,H,J⟩:=x;have M:=field_t kd G K H J;go_in;go_wp2_with fail;apply A.mono;by_cases j:q=1
 .rw[if_pos j]at g;cases g;subst j;rintro e w1 ⟨C,rfl,F⟩;simp only[Wd.val];go_wp2;go_ret;exact⟨C,z,F⟩
 .rw[if_neg j]at g;cases g;simp only[if_neg j];rintro e w1 ⟨C,rfl⟩;exact⟨z,C,z⟩
theorem numb_rd(h:Rw w b S k){R:Except Nat (Int×Nat)}(g:pNumb S.T k=some R):
  Calls Tryz.prog 113 #[Pt b] w (WP w b S R fun x e _=>e= .returned (I x)):=by
 have A:=take_any h 2 (by decide);unfold takeK at A;unfold pNumb at g;obtain⟨q,D⟩:=eX (kindAt S.T k);rw[D]at A g;obtain⟨x,E⟩:=eX (S.T.getD k default);rw[E]at A g;obtain⟨kd,G,K,H,J⟩:=x;have M:=field_n kd G K H J;go_in;go_wp2_with fail;apply A.mono;by_cases j:q=2
 .rw[if_pos j]at g;cases g;subst j;rintro e w1 ⟨C,rfl,F⟩;simp only[Wd.val];go_wp2;go_ret;exact⟨C,z,F⟩
 .rw[if_neg j]at g;cases g;simp only[if_neg j];rintro e w1 ⟨C,rfl⟩;exact⟨z,C,z⟩
def opC(j:Nat):Value:=if j % 2=0 then .string (opS.getD (j/2) noB) else .int .i64 ((opR.getD (j/2) 0:Nat):Int)
def opL:List Value:=(List.range 24).map opC
def opV:Array Value:=opL.toArray
def Ops(w:World):Prop:=∀j,j<24->w.cell? ⟨0,j,none⟩=some (opC j)
theorem Ops.below{w':World}(h:Ops w)(A:bL w w'):Ops w':=fun j g=> (A.cell (p:=⟨0,j,none⟩) (World.block_lt_of_cell? w _ (h j g))).trans (h j g)
theorem Ops.range(h:Ops w):w.rangeAt 0 0 opL:=fun j v g=>by
 have A:j<24:=by
  rcases Nat.lt_or_ge j 24 with h|h
  .exact h
  .rw[List.getElem?_eq_none (by simpa [opL]using h)]at g;cases g
 have C:=h j A;have:opL[j]? =some (opC j):=by simp[opL,List.getElem?_range A]
 rw[this]at g;cases g;rw[Nat.zero_add];exact C
theorem ops_index(h:k<12)(w:World):(Instr.index 223 (.agg opV) (I k)).run Tryz.prog w= .ok (.agg #[.string (opS.getD k noB),I ((opR.getD k 0:Nat):Int)]) w:=by
 rcases k with _|_|_|_|_|_|_|_|_|_|_|_|k;all_goals first
  |omega
  |kernel_rfl
theorem opOf_at(g:k<12)(h:∀j,j<k->opS.getD j noB≠s6)(e:opS.getD k noB=s6):opOf s6=k:=by
 unfold opOf;have:(List.range 12).find? (fun o=>decide (opS.getD o noB=s6))=some k:=by rw[List.find?_range_eq_some];exact⟨by simpa using e,by simpa using g,fun j w=>by simpa using h j w⟩
 rw[this];rfl
theorem opOf_no(h:∀j,j<12->opS.getD j noB≠s6):opOf s6=0:=by
 unfold opOf;have:(List.range 12).find? (fun o=>decide (opS.getD o noB=s6))=none:=by rw[List.find?_eq_none];intro j g;have:=h j (by simpa using g);simpa using this
 rw[this];rfl
theorem oper_any(h:Rw w b S k)(hO:Ops w):
  Calls Tryz.prog 108 #[Pt b] w fun e w'=>e= .returned (.tuple #[I ((opAt S.T k:Nat):Int),I ((rankOf (opAt S.T k):Nat):Int)])/\bL w w':=by
 have U:=peek_any h;have N:=kindN S.T S.en k;obtain⟨wd,X⟩:=eX (nextW S.T S.en k);rw[X]at U N;obtain⟨kd,g,E,C,D⟩:=wd;have Y:kd=kindAt S.T k:=N;obtain⟨o,A⟩:∃o,opAt S.T k=o:=⟨_,rfl⟩;have J:o=if kd=4 then opOf g else 0:=by
  rw[<-A,Y];unfold opAt;split
  .rename_i h4;have h1:=kind_lt S.T (by rw[h4];decide);have:S.T.getD k default=⟨kd,g,E,C,D⟩:=by rw[<-X];unfold nextW;rw[if_pos h1]
   rw[this]
  .rfl
 rw[A];clear A X N Y;go_in;go_wp2_with fail;refine U.mono ?_;rintro e w1 ⟨rfl,G⟩;simp only[Wd.val];have a3:=hO.below G;by_cases V:kd=4
 .subst V;rw[if_pos rfl]at J;have HO:=O J;clear J;have hT:Tk (w1.alloc (.cells #[.int .i64 4,.string g,.int .i64 E,.int .i64 C,.int .i64 D] 142)) w1.1.size 4 g E (C,D):=World.alloc_heap_new _ _;have K:Below w.1.size w (w1.alloc (.cells #[.int .i64 4,.string g,.int .i64 E,.int .i64 C,.int .i64 D] 142)):=G.alloc G.size _;have a0:=a3.below ((Below.refl _ w1).alloc rl (.cells #[I 4,.string g,I E,I C,I D] 142));have hl:=a0.range;have HQ:=O hl;have HE:=O (And.intro hT K);clear hT K a0 a3 hO U h G hl;go_upto_region 3 with fail;go_step;refine wpList_load_mid rfl 223 _ rfl 0 0 rfl opL (.array 12 222) HQ.o Tryz.underlying223 rfl (by kernel_rfl) ?_;rw[show opL.toArray=opV from rfl]
  simp only[Act.put,List.setIfInBounds_toArray,List.set_cons_succ,List.set_cons_zero];clear HQ;go_wp2_with fail;generalize a4:w1.alloc (.cells #[I 4,.string g,I E,I C,I D] 142)=W1 at *;clear a4;generalize w1.1.size=z at *;go_loopw [15] (fun i wr=>∃k:Nat,k<=12/\i=I k/\Hid (∀j,j<k->opS.getD j noB≠g)/\Hid (Tk wr z 4 g E (C,D)/\bL w wr)) (fun i _=>12- (intOf i).toNat);case atStart=>exact⟨0,by omega,rfl,O (fun j hj=>by omega),HE⟩
  case round=>
   obtain⟨k,V,rfl,R,H⟩:=hrel;by_cases a1:k<12
   .have a5:(k:Int)<12:=by omega
    have hx:=fun w=>ops_index a1 w;obtain⟨s,Q⟩:=eX (opS.getD k noB);obtain⟨r,W⟩:=eX (opR.getD k 0);rw[Q,W]at hx;have Z:=O Q;have HR:=O W;have a6:(wr.alloc (.cells #[.string s,.int .i64 (r:Int)] 222)).cell? ⟨z,1,none⟩=some (.string g):=(H.o.1.alloc _).c1;have HA:=O (And.intro (H.o.1.alloc (.cells #[.string s,I r] 222)) (H.o.2.alloc H.o.2.size (.cells #[.string s,I r] 222)));clear Q W;by_cases F:s=g
    .have M:=O F;have hq:(s.toList==g.toList)=true:=by rw[F];simp
     clear F;go_wp2_with fail;go_quiet (fail);have A:o=k:=by rw[HO.o];exact opOf_at a1 R.o (Z.o.trans M.o)
     have a2:rankOf o=r:=by rw[A];exact HR.o
     have HZ:=O (And.intro A a2);clear A a2;go_wp2_with fail;go_ret2;exact⟨by rw[HZ.o.2,HZ.o.1];rfl,below_drewN HA.o.2 _⟩
    .have M:=O F;have hq:(s.toList==g.toList)=false:=by rw[<-str_eq];simpa using F
     clear F;go_wp2_with fail;go_roundw;case rel=>exact⟨k+1,by omega,by go_num,O (fun j hj=>by
      rcases Nat.lt_or_ge j k with h|h
      .exact R.o j h
      .obtain rfl:j=k:=by omega
       rw[Z.o];exact M.o),HA⟩
     case measure=>simp[intOf];omega
   .obtain rfl:k=12:=by omega
    have A:o=0:=by rw[HO.o];exact opOf_no R.o
    subst A;go_wp2_with fail;go_ret2;exact⟨rfl,H.o.2⟩
 .rw[if_neg V]at J;subst J;have K:Below w.1.size w (w1.alloc (.cells #[.int .i64 kd,.string g,.int .i64 E,.int .i64 C,.int .i64 D] 142)):=G.alloc G.size _;go_wp2_with fail;go_ret2;exact⟨rfl,K⟩
def Xc(w:World)(b:Nat)(v0 v1 v2 v3 v4 v5 v6:Value):Prop:=w.1[b]? =some (.cells #[v0,v1,v2,v3,v4,v5,v6] 58 (0,0))
section
variable {w:World} {b:Nat} {v0 v1 v2 v3 v4 v5 v6:Value}
theorem Xc.lt(h:Xc w b v0 v1 v2 v3 v4 v5 v6):b<w.1.size:=(Array.getElem?_eq_some_iff.1 h).1
theorem Xc.c0(h:Xc w b v0 v1 v2 v3 v4 v5 v6):w.cell? ⟨b,0,none⟩=some v0:=by unfold Xc at h;simp[World.cell?,h]
theorem Xc.c1(h:Xc w b v0 v1 v2 v3 v4 v5 v6):w.cell? ⟨b,1,none⟩=some v1:=by unfold Xc at h;simp[World.cell?,h]
theorem Xc.c2(h:Xc w b v0 v1 v2 v3 v4 v5 v6):w.cell? ⟨b,2,none⟩=some v2:=by unfold Xc at h;simp[World.cell?,h]
theorem Xc.c3(h:Xc w b v0 v1 v2 v3 v4 v5 v6):w.cell? ⟨b,3,none⟩=some v3:=by unfold Xc at h;simp[World.cell?,h]
theorem Xc.c4(h:Xc w b v0 v1 v2 v3 v4 v5 v6):w.cell? ⟨b,4,none⟩=some v4:=by unfold Xc at h;simp[World.cell?,h]
theorem Xc.c5(h:Xc w b v0 v1 v2 v3 v4 v5 v6):w.cell? ⟨b,5,none⟩=some v5:=by unfold Xc at h;simp[World.cell?,h]
theorem Xc.c6(h:Xc w b v0 v1 v2 v3 v4 v5 v6):w.cell? ⟨b,6,none⟩=some v6:=by unfold Xc at h;simp[World.cell?,h]
theorem Xc.al(h:Xc w b v0 v1 v2 v3 v4 v5 v6):w.cell? ⟨b,0,none⟩=some v0/\w.cell? ⟨b,1,none⟩=some v1/\w.cell? ⟨b,2,none⟩=some v2/\w.cell? ⟨b,3,none⟩=some v3/\w.cell? ⟨b,4,none⟩=some v4/\w.cell? ⟨b,5,none⟩=some v5/\w.cell? ⟨b,6,none⟩=some v6:=⟨h.c0,h.c1,h.c2,h.c3,h.c4,h.c5,h.c6⟩
theorem Xc.frozen(h:Xc w b v0 v1 v2 v3 v4 v5 v6)(k:Nat):w.frozen? ⟨b,k,none⟩=false:=by unfold Xc at h;simp[World.frozen?,h]
theorem Xc.of{w':World}(h:Xc w b v0 v1 v2 v3 v4 v5 v6)(g:w'.1[b]? =w.1[b]?):Xc w' b v0 v1 v2 v3 v4 v5 v6:=g.trans h
theorem Xc.alloc(h:Xc w b v0 v1 v2 v3 v4 v5 v6)(o:Obj):Xc (w.alloc o) b v0 v1 v2 v3 v4 v5 v6:=h.of ((World.grownBy_alloc w o none).block b h.lt (by simp))
abbrev set7 (w:World) (b:Nat) (u0 u1 u2 u3 u4 u5 u6:Value):World:=((((((w.setCell ⟨b,0,none⟩ u0).setCell ⟨b,1,none⟩ u1).setCell ⟨b,2,none⟩ u2).setCell ⟨b,3,none⟩ u3).setCell ⟨b,4,none⟩ u4).setCell ⟨b,5,none⟩ u5).setCell ⟨b,6,none⟩ u6
theorem Xc.set(h:Xc w b v0 v1 v2 v3 v4 v5 v6)(A G C E D F g:Value):Xc (set7 w b A G C E D F g) b A G C E D F g:=by have H:=heap_set (j:=6) (heap_set (j:=5) (heap_set (j:=4) (heap_set (j:=3) (heap_set (j:=2) (heap_set (j:=1) (heap_set (j:=0) h A) G) C) E) D) F) g;unfold Xc;rw[H];simp
end
theorem end_ex{g:Func}{R:Ending->World->Prop}{s:Tmp}(h:Xc W b v0 v1 v2 v3 v4 v5 v6)(j:g.results= #[.cell s 58])
  (E:A.tmps.getD s undef=Pt b)(hd:A.defers=[])(w:R (.returned (.agg #[v0,v1,v2,v3,v4,v5,v6])) W):bodyPost Tryz.prog g R .ret A W:=by
 have K:=h.c0;have F:=h.c1;have G:=h.c2;have M:=h.c3;have D:=h.c4;have H:=h.c5;have C:=h.c6;have J:A.tmps[s]?.getD undef=Pt b:=by rw[<-E];simp
 refine bodyPost_ret (v:= .agg #[v0,v1,v2,v3,v4,v5,v6]) ?_ hd w;simp[results,j,go_sem,J,K,F,G,M,D,H,C]
theorem kp_set7{z:Nat}(h:Kp w W b b)(g:w.1.size<=z)(A G C E D F j:Value):Kp w (set7 W z A G C E D F j) b b:=
 (((((((h.setNew g 0 A).setNew g 1 G).setNew g 2 C).setNew g 3 E).setNew g 4 D).setNew g 5 F).setNew g 6 j)
theorem heap_set7{z:Nat}(h:b≠z)(j E w C A D g:Value):(set7 W z j E w C A D g).1[b]? =W.1[b]? :=by simp only[set7];rw[Below.heap_setCell _ ⟨z,6,none⟩ _ b h,Below.heap_setCell _ ⟨z,5,none⟩ _ b h,Below.heap_setCell _ ⟨z,4,none⟩ _ b h,Below.heap_setCell _ ⟨z,3,none⟩ _ b h,Below.heap_setCell _ ⟨z,2,none⟩ _ b h,Below.heap_setCell _ ⟨z,1,none⟩ _ b h,Below.heap_setCell _ ⟨z,0,none⟩ _ b h]
theorem Ops.kp{w':World}(h:Ops w)(D:Kp w w' b b)(A:b≠0):Ops w':=fun j C=>by have g:=h j C;have E:=D.block 0 (World.block_lt_of_cell? w _ g) (Ne.symm A) (Ne.symm A);rw[<-g];simp[World.cell?,E]
theorem ExL.kp{w':World}{cs:List Value}{x:Ex}(h:ExL (w0.1.size<=·) w cs x)(j:Kp w w' b b)(D:b<w0.1.size):ExL (w0.1.size<=·) w' cs x:=
 ExL.keep (fun c o v C g=>by have A:=j.block c (World.block_lt_of_cellF w g) (by omega) (by omega);rw[<-g];simp[World.cellF,A]) h
def exOk(w:World)(x:Ex)(e:Ending)(w':World):Prop:=∃cs:List Value,e= .returned (.agg cs.toArray)/\ExL (w.1.size<=·) w' cs x
def CU(b:Nat)(S:Src)(f:Nat):Prop:=∀ (w:World) (k:Nat) (R:Except Nat (Ex×Nat)),Rw w b S k->Ops w->pU S.T f k=some R->Calls Tryz.prog 107 #[.pointer (some ⟨b,0,none⟩)] w (WP w b S R (exOk w))
def CP(b:Nat)(S:Src)(f:Nat):Prop:=∀ (w:World) (k:Nat) (R:Except Nat (Ex×Nat)),Rw w b S k->Ops w->pP S.T f k=some R->Calls Tryz.prog 144 #[.pointer (some ⟨b,0,none⟩)] w (WP w b S R (exOk w))
def CE(b:Nat)(S:Src)(f:Nat):Prop:=∀ (w:World) (n k:Nat) (R:Except Nat (Ex×Nat)),n<=7->Rw w b S k->Ops w->pE S.T f n k=some R->Calls Tryz.prog 67 #[.pointer (some ⟨b,0,none⟩),.int .i64 (n:Int)] w (WP w b S R (exOk w))
theorem one_arg{z:Nat}{x:Ex}{cs:List Value}(R:ExL (V.1.size<=·) W cs x)(S:z<V.1.size)(U:V.1.size<=W.1.size)(N:w.1.size<=V.1.size)(q n:Int)(s:ByteArray)(H A j D J E F:Value):
  ExL (w.1.size<=·) (set7 (W.alloc (.cells cs.toArray 58)) z H A j D J E F) [I q,I n,.string s,I 0,.bool false,I 0,.slice (some ⟨W.1.size,0,none⟩) 1 1] (.mk q n s 0 false 0 [x]):=by
 have M:W.1.size≠z:=by omega
 unfold ExL;refine⟨some ⟨W.1.size,0,none⟩,1,rfl,⟨rl,by decide⟩,?_⟩;unfold ExsL;refine⟨⟨W.1.size,0,cs,rfl,by omega,fun t v g=>?_,?_⟩,by unfold ExsL;trivial⟩
 .have C:(set7 (W.alloc (.cells cs.toArray 58)) z H A j D J E F).1[W.1.size]? =some (.cells cs.toArray 58 (0,0)):=(heap_set7 M _ _ _ _ _ _ _).trans (World.alloc_heap_new _ _);simp only[World.cellF,C];simpa using g
 .refine ExL.weak (fun c G=> (Nat.le_trans N G:w.1.size<=c)) (ExL.keep (fun c o v G g=>?_) R);have Q:=World.block_lt_of_cellF W g;have K:c≠z:=by have:=G;omega
  have C:(set7 (W.alloc (.cells cs.toArray 58)) z H A j D J E F).1[c]? =W.1[c]? :=(heap_set7 K _ _ _ _ _ _ _).trans ((World.grownBy_alloc W _ none).block c Q (by simp));rw[<-g];simp[World.cellF,C]
theorem ex_put{z:Nat}{x:Ex}{cs:List Value}(M:ExL (V.1.size<=·) U cs x)(N:z<V.1.size)(K:w.1.size<=V.1.size)(A G C E D F j:Value):
  ExL (w.1.size<=·) (set7 U z A G C E D F j) cs x:=by
 refine ExL.weak (fun c g=> (Nat.le_trans K g:w.1.size<=c)) (ExL.keep (fun c o v g J=>?_) M);have H:c≠z:=by have:=g;omega
 rw[<-J];simp[World.cellF,heap_set7 (W:=U) H A G C E D F j]
theorem unary_step{f:Nat}(Z:b≠0)(Y:CU b S f)(hP:CP b S f):CU b S (f+1):=by
 intro w k R h hO A;rw[pU]at A;have h0:=h.alloc (.cells #[I 0,I 0,.string ⟨#[]⟩,I 0,.bool false,I 0,.slice none 0 0] 58);have a3:Xc (w.alloc (.cells #[.int .i64 0,.int .i64 0,.string ⟨#[]⟩,.int .i64 0,.bool false,.int .i64 0,.slice none 0 0] 58)) w.1.size (.int .i64 0) (.int .i64 0) (.string ⟨#[]⟩) (.int .i64 0) (.bool false) (.int .i64 0) (.slice none 0 0):=World.alloc_heap_new _ _;have a5:Kp w (w.alloc (.cells #[I 0,I 0,.string ⟨#[]⟩,I 0,.bool false,I 0,.slice none 0 0] 58)) b b:=kp_same ((Below.refl _ w).alloc rl _);have a8:=h.lt;go_in;go_wp2_with fail;generalize w.alloc (.cells #[I 0,I 0,.string ⟨#[]⟩,I 0,.bool false,I 0,.slice none 0 0] 58)=W0 at *;apply (accept_any h0 sMinus).mono
 rintro e W1 ⟨a4,rfl,Q⟩;have K:=a5.trans a4;have W:=a3.of (a4.block _ a3.lt (by omega) (by omega));obtain⟨m,X⟩:=eX (isT S.T k sMinus);rw[X]at A Q;rw[X];cases m
 .rw[if_neg Bool.false_ne_true]at A Q;go_wp2_with fail;apply (accept_any Q sNot).mono;rintro e a2 ⟨a7,rfl,H⟩;have F:=K.trans a7;have U:=W.of (a7.block _ W.lt (by omega) (by omega));obtain⟨m,X⟩:=eX (isT S.T k sNot);rw[X]at A H;rw[X];cases m
  .rw[if_neg Bool.false_ne_true]at A H;rcases hx:pP S.T f k with _| (j|⟨x,j⟩)
   .rw[hx]at A;cases A
   .rw[hx]at A;cases A;go_wp2_with fail;apply (hP a2 k _ H (hO.kp F Z) hx).mono;rintro e V ⟨C,rfl⟩;exact⟨rfl,F.trans C,rfl⟩
   .rw[hx]at A;cases A;go_wp2_with fail;apply (hP a2 k _ H (hO.kp F Z) hx).mono;rintro e V ⟨C,⟨cs,rfl,G⟩,D⟩;obtain⟨xk,xn,xs,xl,xo,xp,xa⟩:=x;have M:=G;unfold ExL at G;obtain⟨a,cap,rfl,b4,a0⟩:=G;have E:=F.trans C;have g:=U.of (C.block _ U.lt (by omega) (by omega));obtain⟨z,J⟩:=eX (w.1.size);have HZ:=O J;have HH:=O h;rw[J]at g a8 ⊢;have a9:=g.c0;have t1:=g.c1;have t2:=g.c2;have t3:=g.c3;have t4:=g.c4;have t5:=g.c5;have t6:=g.c6;have f0:=g.frozen 0;have f1:=g.frozen 1;have f2:=g.frozen 2;have f3:=g.frozen 3;have f4:=g.frozen 4;have f5:=g.frozen 5;have f6:=g.frozen 6;have a1:=F.size;have b5:=U.lt;have HE:=O (And.intro g (And.intro (ex_put (w:=w) M (z:=z) (by omega) a1) (And.intro E D)));go_wp2
    obtain⟨g,hA,E,D⟩:=HE;have N:=kp_set7 E (z:=z) (by rw[HZ.o];exact Nat.le_refl _);refine end_ex (g.set _ _ _ _ _ _ _) rfl rfl rfl ⟨N _ _ _ _ _ _ _,⟨_,rfl,hA _ _ _ _ _ _ _⟩,?_⟩;exact HH.fin D (N _ _ _ _ _ _ _) (heap_set7 (by omega) _ _ _ _ _ _ _)
  .rw[if_pos rfl]at A H;rcases hx:pU S.T f (k+1) with _| (j|⟨x,j⟩)
   .rw[hx]at A;cases A
   .rw[hx]at A;cases A;go_wp2_with fail;apply (Y a2 (k+1) _ H (hO.kp F Z) hx).mono;rintro e V ⟨C,rfl⟩;exact⟨rfl,F.trans C,rfl⟩
   .rw[hx]at A;cases A;go_wp2_with fail;apply (Y a2 (k+1) _ H (hO.kp F Z) hx).mono;rintro e V ⟨C,⟨cs,rfl,G⟩,D⟩;obtain⟨xk,xn,xs,xl,xo,xp,xa⟩:=x;have M:=G;unfold ExL at G;obtain⟨a,cap,rfl,b4,a0⟩:=G;have E:=F.trans C;have g:=U.of (C.block _ U.lt (by omega) (by omega));obtain⟨z,J⟩:=eX (w.1.size);have HZ:=O J;have HH:=O h;rw[J]at g a8 ⊢;have a9:=fun o=> (g.alloc o).c0;have t1:=fun o=> (g.alloc o).c1;have t2:=fun o=> (g.alloc o).c2;have t3:=fun o=> (g.alloc o).c3;have t4:=fun o=> (g.alloc o).c4;have t5:=fun o=> (g.alloc o).c5;have t6:=fun o=> (g.alloc o).c6;have f0:=fun o=> (g.alloc o).frozen 0;have f1:=fun o=> (g.alloc o).frozen 1;have f2:=fun o=> (g.alloc o).frozen 2
    have f3:=fun o=> (g.alloc o).frozen 3;have f4:=fun o=> (g.alloc o).frozen 4;have f5:=fun o=> (g.alloc o).frozen 5;have f6:=fun o=> (g.alloc o).frozen 6;have a1:=F.size;have b5:=U.lt;have a6:=C.size;have HE:=O (And.intro g (And.intro (one_arg (w:=w) M (z:=z) (by omega) a6 a1 5 0 ⟨#[]⟩) (And.intro E D)));go_wp2;obtain⟨g,hA,E,D⟩:=HE;have N:=kp_set7 (E.alloc (.cells #[I xk,I xn,.string xs,I xl,.bool xo,I xp,.slice a xa.length cap] 58)) (z:=z) (by rw[HZ.o];exact Nat.le_refl _);refine end_ex ((g.alloc _).set _ _ _ _ _ _ _) rfl rfl rfl ⟨N _ _ _ _ _ _ _,⟨_,rfl,hA _ _ _ _ _ _ _⟩,?_⟩
    exact HH.fin D (N _ _ _ _ _ _ _) ((heap_set7 (by omega) _ _ _ _ _ _ _).trans ((World.grownBy_alloc V _ none).block b D.lt (by simp)))
 .rw[if_pos rfl]at A Q;rcases hx:pU S.T f (k+1) with _| (j|⟨x,j⟩)
  .rw[hx]at A;cases A
  .rw[hx]at A;cases A;go_wp2_with fail;apply (Y W1 (k+1) _ Q (hO.kp K Z) hx).mono;rintro e V ⟨C,rfl⟩;exact⟨rfl,K.trans C,rfl⟩
  .rw[hx]at A;cases A;go_wp2_with fail;apply (Y W1 (k+1) _ Q (hO.kp K Z) hx).mono;rintro e V ⟨C,⟨cs,rfl,G⟩,D⟩;obtain⟨xk,xn,xs,xl,xo,xp,xa⟩:=x;have M:=G;unfold ExL at G;obtain⟨a,cap,rfl,b4,a0⟩:=G;have E:=K.trans C;have g:=W.of (C.block _ W.lt (by omega) (by omega));obtain⟨z,J⟩:=eX (w.1.size);have HZ:=O J;have HH:=O h;rw[J]at g a8 ⊢;have a9:=fun o=> (g.alloc o).c0;have t1:=fun o=> (g.alloc o).c1;have t2:=fun o=> (g.alloc o).c2;have t3:=fun o=> (g.alloc o).c3;have t4:=fun o=> (g.alloc o).c4;have t5:=fun o=> (g.alloc o).c5;have t6:=fun o=> (g.alloc o).c6;have f0:=fun o=> (g.alloc o).frozen 0;have f1:=fun o=> (g.alloc o).frozen 1;have f2:=fun o=> (g.alloc o).frozen 2
   have f3:=fun o=> (g.alloc o).frozen 3;have f4:=fun o=> (g.alloc o).frozen 4;have f5:=fun o=> (g.alloc o).frozen 5;have f6:=fun o=> (g.alloc o).frozen 6;have a1:=K.size;have b5:=W.lt;have a6:=C.size;have HE:=O (And.intro g (And.intro (one_arg (w:=w) M (z:=z) (by omega) a6 a1 4 0 ⟨#[]⟩) (And.intro E D)));go_wp2;obtain⟨g,hA,E,D⟩:=HE;have N:=kp_set7 (E.alloc (.cells #[I xk,I xn,.string xs,I xl,.bool xo,I xp,.slice a xa.length cap] 58)) (z:=z) (by rw[HZ.o];exact Nat.le_refl _);refine end_ex ((g.alloc _).set _ _ _ _ _ _ _) rfl rfl rfl ⟨N _ _ _ _ _ _ _,⟨_,rfl,hA _ _ _ _ _ _ _⟩,?_⟩
   exact HH.fin D (N _ _ _ _ _ _ _) ((heap_set7 (by omega) _ _ _ _ _ _ _).trans ((World.grownBy_alloc V _ none).block b D.lt (by simp)))
theorem field_k(kd:Int)(j:ByteArray)(C A g:Int)(w:World):(Instr.field 142 (.agg #[I kd,.string j,I C,I A,I g]) 0).run Tryz.prog w= .ok (I kd) w:=by kernel_rfl
theorem no_arg{ok:Nat->Prop}(w:World)(q n:Int)(s:ByteArray):ExL ok w [I q,I n,.string s,I 0,.bool false,I 0,.slice none 0 0] (.mk q n s 0 false 0 []):=by unfold ExL;exact⟨none,0,z,⟨rl,by decide⟩,by unfold ExsL;trivial⟩
theorem one_arg0{x:Ex}{cs:List Value}(C:ExL (W.1.size<=·) w cs x)(A:W.1.size<=w.1.size)(q n:Int)(s:ByteArray):
  ExL (W.1.size<=·) (w.alloc (.cells cs.toArray 58)) [I q,I n,.string s,I 0,.bool false,I 0,.slice (some ⟨w.1.size,0,none⟩) 1 1] (.mk q n s 0 false 0 [x]):=by
 unfold ExL;refine⟨some ⟨w.1.size,0,none⟩,1,z,⟨rl,by decide⟩,?_⟩;unfold ExsL;refine⟨⟨w.1.size,0,cs,z,A,fun t v g=>?_,?_⟩,by unfold ExsL;trivial⟩
 .have j:(w.alloc (.cells cs.toArray 58)).1[w.1.size]? =some (.cells cs.toArray 58 (0,0)):=World.alloc_heap_new _ _;simp only[World.cellF,j];simpa using g
 .refine ExL.keep (fun c o v D g=>?_) C;have j:=(World.grownBy_alloc w (.cells cs.toArray 58) none).block c (World.block_lt_of_cellF w g) (by simp);rw[<-g];simp[World.cellF,j]
theorem ex_set{x:Ex}{cs:List Value}(A:ExL (w.1.size<=·) W cs x)(C:c<w.1.size)(t:Nat)(u:Value):ExL (w.1.size<=·) (W.setCell ⟨c,t,none⟩ u) cs x:=
 ExL.keep (fun d o v hd j=>by
  have g:d≠c:=by have:=hd;omega
  rw[<-j];exact World.cellF_setCell_far W ⟨c,t,none⟩ ⟨d,o,none⟩ u (Ne.symm g)) A
theorem Xc.set06(h:Xc w b v5 v0 v1 v2 v3 v4 v6)(A g:Value):Xc ((w.setCell ⟨b,0,none⟩ A).setCell ⟨b,6,none⟩ g) b A v0 v1 v2 v3 v4 g:=by have C:=heap_set (j:=6) (heap_set (j:=0) h A) g;unfold Xc;rw[C];simp
theorem prim_step{f:Nat}(c8:b≠0)(hE:CE b S f):CP b S (f+1):=by
 intro w k R h hO A;rw[pP]at A;have h0:=h.alloc (.cells #[I 0,I 0,.string ⟨#[]⟩,I 0,.bool false,I 0,.slice none 0 0] 58);have e1:Xc (w.alloc (.cells #[.int .i64 0,.int .i64 0,.string ⟨#[]⟩,.int .i64 0,.bool false,.int .i64 0,.slice none 0 0] 58)) w.1.size (.int .i64 0) (.int .i64 0) (.string ⟨#[]⟩) (.int .i64 0) (.bool false) (.int .i64 0) (.slice none 0 0):=World.alloc_heap_new _ _;have g9:Kp w (w.alloc (.cells #[I 0,I 0,.string ⟨#[]⟩,I 0,.bool false,I 0,.slice none 0 0] 58)) b b:=kp_same ((Below.refl _ w).alloc rl _);have i9:=h.lt;have HH:=O h;go_in;go_wp2_with fail;generalize w.alloc (.cells #[I 0,I 0,.string ⟨#[]⟩,I 0,.bool false,I 0,.slice none 0 0] 58)=W0 at *
 refine(accept_any h0 sOpen).mono ?_;rintro e W1 ⟨d6,rfl,h1⟩;have a3:=g9.trans d6;have a7:=e1.of (d6.block _ e1.lt (by omega) (by omega));obtain⟨m,hm⟩:=eX (isT S.T k sOpen);rw[hm]at A h1;rw[hm];clear hm g9 d6 e1 h0;obtain⟨z,hz⟩:=eX (w.1.size);have HZ:=O hz;have j4:=a3.size;have h8:=a7.lt;rw[hz]at a7 i9 h8 ⊢;cases m
 .rw[if_neg Bool.false_ne_true]at A h1;have hp:=peek_any h1;have e0:=kindN S.T S.en k;obtain⟨wd,i0⟩:=eX (nextW S.T S.en k);rw[i0]at hp e0;obtain⟨kd,tx,nu,li,co⟩:=wd;have HK:=O (show kd=kindAt S.T k from e0);have hf:=field_k kd tx nu li co;clear e0 i0;go_wp2_with fail;refine hp.mono ?_;rintro e W2 ⟨rfl,b6⟩;simp only[Wd.val];have H:=kp_same (b:=b) b6;have h2:=h1.below b6;have a0:=a3.trans H;have i4:=H.size;have a4:=a7.of (b6.block z h8);clear a3 H b6 a7 h1 hp;by_cases H:kd=2
  .subst H;have d1:=HK.o.symm;rw[if_pos d1]at A;have d3:=numb_rd h2 (R:= .ok ((S.T.getD k default).num,k+1)) (by unfold pNumb;rw[if_pos d1]);obtain⟨nn,f9⟩:=eX ((S.T.getD k default).num);rw[f9]at d3 A;cases A;clear d1 f9;go_wp2_with fail;refine d3.mono ?_;rintro e Y ⟨G,rfl,E⟩;have D:=a0.trans G;have g:=a4.of (G.block z (by omega) (by omega) (by omega));have HE:=O (And.intro g (And.intro D E));have d5:=g.c0;have t1:=g.c1;have t2:=g.c2;have t3:=g.c3;have t4:=g.c4;have t5:=g.c5;have t6:=g.c6;have f0:=g.frozen 0;have f1:=g.frozen 1;have f2:=g.frozen 2;have f3:=g.frozen 3;have f4:=g.frozen 4;have f5:=g.frozen 5;have f6:=g.frozen 6;clear g D E G a0 h2 a4 hE d3;go_wp2_with fail;obtain⟨g,D,E⟩:=HE.o
   have K:=kp_set7 D (z:=z) (by rw[HZ.o];exact Nat.le_refl _);refine end_ex (g.set _ _ _ _ _ _ _) rfl rfl rfl ⟨K _ _ _ _ _ _ _,⟨_,rfl,no_arg _ 1 nn ⟨#[]⟩⟩,?_⟩;exact HH.o.fin E (K _ _ _ _ _ _ _) (heap_set7 (by omega) _ _ _ _ _ _ _)
  .rw[if_neg (fun e=>H (HK.o.trans e))]at A;go_wp2_with fail;rcases hn:pName S.T k with _|R2
   .rw[hn]at A;cases A
   .refine(name_rd h2 hn).mono ?_;rcases R2 with j2|⟨nm,j2⟩
    .rw[hn]at A;cases A;rintro e Y ⟨G,rfl⟩;exact⟨rfl,a0.trans G,rfl⟩
    .rw[hn,andT_ok]at A;rintro e Y ⟨G,rfl,E⟩;have D:=a0.trans G;have g:=a4.of (G.block z (by omega) (by omega) (by omega));have i8:=G.size;have c9:Xc (Y.alloc (.cells #[.int .i64 2,.int .i64 0,.string nm,.int .i64 0,.bool false,.int .i64 0,.slice none 0 0] 58)) Y.1.size (.int .i64 2) (.int .i64 0) (.string nm) (.int .i64 0) (.bool false) (.int .i64 0) (.slice none 0 0):=World.alloc_heap_new _ _;have d8:=g.alloc (.cells #[I 2,I 0,.string nm,I 0,.bool false,I 0,.slice none 0 0] 58);have h5:=E.alloc (.cells #[I 2,I 0,.string nm,I 0,.bool false,I 0,.slice none 0 0] 58);have g3:=D.alloc (.cells #[I 2,I 0,.string nm,I 0,.bool false,I 0,.slice none 0 0] 58)
     have i1:(Y.alloc (.cells #[I 2,I 0,.string nm,I 0,.bool false,I 0,.slice none 0 0] 58)).1.size=Y.1.size+1:=by simp
     obtain⟨y,hy⟩:=eX (Y.1.size);rw[hy]at c9 i8 i1;have HY:=O hy;go_wp2_with fail;generalize Y.alloc (.cells #[I 2,I 0,.string nm,I 0,.bool false,I 0,.slice none 0 0] 58)=W5 at *;refine(accept_any h5 sBrO).mono ?_;rintro e W6 ⟨b4,rfl,Z⟩;have j5:=b4.size;have j6:=h5.lt;have a6:=g3.trans b4;have C:=d8.of (b4.block _ d8.lt (by omega) (by omega));have J:=c9.of (b4.block _ c9.lt (by omega) (by omega));obtain⟨m,hm⟩:=eX (isT S.T j2 sBrO);rw[hm]at A Z;rw[hm];cases m
     .rw[if_neg Bool.false_ne_true]at A Z;cases A;have HE:=O (And.intro C (And.intro a6 Z));have b8:y≠z:=by omega
      have y0:=J.c0;have y1:=J.c1;have y2:=J.c2;have y3:=J.c3;have y4:=J.c4;have y5:=J.c5;have y6:=J.c6;have d5:=C.c0;have t1:=C.c1;have t2:=C.c2;have t3:=C.c3;have t4:=C.c4;have t5:=C.c5;have t6:=C.c6;have f0:=C.frozen 0;have f1:=C.frozen 1;have f2:=C.frozen 2;have f3:=C.frozen 3;have f4:=C.frozen 4;have f5:=C.frozen 5;have f6:=C.frozen 6;go_wp2_with fail;obtain⟨g,D,E⟩:=HE.o;have K:=kp_set7 D (z:=z) (by rw[HZ.o];exact Nat.le_refl _);refine end_ex (g.set _ _ _ _ _ _ _) rfl rfl rfl ⟨K _ _ _ _ _ _ _,⟨_,rfl,no_arg _ 2 0 nm⟩,?_⟩;exact HH.o.fin E (K _ _ _ _ _ _ _) (heap_set7 (by omega) _ _ _ _ _ _ _)
     .rw[if_pos rfl]at A Z;rcases hx:pE S.T f 1 (j2+1) with _| (j|⟨x,j⟩)
      .rw[hx]at A;cases A
      .rw[hx]at A;cases A;go_wp2_with fail;refine(hE W6 1 (j2+1) _ (by decide) Z (hO.kp a6 c8) hx).mono ?_;rintro e U ⟨a5,rfl⟩;exact⟨rfl,a6.trans a5,rfl⟩
      .rw[hx,andT_ok]at A;go_wp2_with fail;refine(hE W6 1 (j2+1) _ (by decide) Z (hO.kp a6 c8) hx).mono ?_;rintro e U ⟨a5,⟨cs,rfl,hX⟩,h7⟩;obtain⟨M,W,xs,X,V,Q,N⟩:=x;have b5:=hX;unfold ExL at hX;obtain⟨a,cap,rfl,i6,d4⟩:=hX;have i2:=a5.size;have i3:=C.lt;have e3:=J.lt;have i5:=Z.lt;have e8:=a6.trans a5;have e6:=C.of (a5.block z (by omega) (by omega) (by omega));have f8:=J.of (a5.block y (by omega) (by omega) (by omega));have e7:=one_arg0 b5 i2 3 0 nm;have g1:=e6.alloc (.cells #[I M,I W,.string xs,I X,.bool V,I Q,.slice a N.length cap] 58);have a9:=f8.alloc (.cells #[I M,I W,.string xs,I X,.bool V,I Q,.slice a N.length cap] 58)
       have e5:=e8.alloc (.cells #[I M,I W,.string xs,I X,.bool V,I Q,.slice a N.length cap] 58);have e2:(U.alloc (.cells #[.int .i64 M,.int .i64 W,.string xs,.int .i64 X,.bool V,.int .i64 Q,.slice a N.length cap] 58)).1[b]? =U.1[b]? :=(World.grownBy_alloc U _ none).block b h7.lt (by simp);have b8:y≠z:=by omega
       have e9:y≠b:=by omega
       have HX:=ex_set (ex_set e7 (c:=y) e3 0 (I 3)) (c:=y) e3 6 (.slice (some ⟨U.1.size,0,none⟩) 1 1);have d2:Xc _ z _ _ _ _ _ _ _:=(g1.of (Below.heap_setCell _ ⟨y,0,none⟩ (I 3) z (Ne.symm b8))).of (Below.heap_setCell _ ⟨y,6,none⟩ (.slice (some ⟨U.1.size,0,none⟩) 1 1) z (Ne.symm b8));have d9:=a9.set06 (I 3) (.slice (some ⟨U.1.size,0,none⟩) 1 1);have b7:=(e5.setNew (r:=y) (by omega) 0 (I 3)).setNew (r:=y) (by omega) 6 (.slice (some ⟨U.1.size,0,none⟩) 1 1);have h9:=HH.o.fin h7 b7 (((Below.heap_setCell _ ⟨y,6,none⟩ _ b (Ne.symm e9)).trans (Below.heap_setCell _ ⟨y,0,none⟩ _ b (Ne.symm e9))).trans e2);have y0:=a9.c0;have y6:=a9.c6;have g0:=a9.frozen 0;have g6:=a9.frozen 6;go_wp2_with fail
       generalize j1:((U.alloc (.cells #[I M,I W,.string xs,I X,.bool V,I Q,.slice a N.length cap] 58)).setCell ⟨y,0,none⟩ (I 3)).setCell ⟨y,6,none⟩ (.slice (some ⟨U.1.size,0,none⟩) 1 1)=W9 at *;generalize U.1.size=q7 at *;rcases hw:want S.T sBrS j with _|R2
       .rw[hw]at A;cases A
       .refine(want_any h9 sBrS hw).mono ?_;rintro e j7 ⟨a8,g7⟩;rcases R2 with j3|⟨_,j3⟩
        .rw[hw]at A;cases A;obtain rfl:=g7;exact⟨rfl,b7.trans a8,rfl⟩
        .rw[hw]at A;cases A;obtain⟨rfl,g8⟩:=g7;have e4:=b7.trans a8;have F:=d2.of (a8.block z d2.lt (by omega) (by omega));have a2:=d9.of (a8.block y d9.lt (by omega) (by omega));have g2:=ExL.kp HX a8 i5;have i7:w.1.size<=W6.1.size:=by omega
         have HE:=O (And.intro F (And.intro (ex_put (w:=w) g2 (z:=z) i3 i7) (And.intro e4 g8)));have y0:=a2.c0;have y1:=a2.c1;have y2:=a2.c2;have y3:=a2.c3;have y4:=a2.c4;have y5:=a2.c5;have y6:=a2.c6;have d5:=F.c0;have t1:=F.c1;have t2:=F.c2;have t3:=F.c3;have t4:=F.c4;have t5:=F.c5;have t6:=F.c6;have f0:=F.frozen 0;have f1:=F.frozen 1;have f2:=F.frozen 2;have f3:=F.frozen 3;have f4:=F.frozen 4;have f5:=F.frozen 5;have f6:=F.frozen 6;go_wp2_with fail;obtain⟨g,hA,D,E⟩:=HE.o;have K:=kp_set7 D (z:=z) (by rw[HZ.o];exact Nat.le_refl _);refine end_ex (g.set _ _ _ _ _ _ _) rfl rfl rfl ⟨K _ _ _ _ _ _ _,⟨_,rfl,hA _ _ _ _ _ _ _⟩,?_⟩
         exact HH.o.fin E (K _ _ _ _ _ _ _) (heap_set7 (by omega) _ _ _ _ _ _ _)
 .rw[if_pos rfl]at A h1;rcases hx:pE S.T f 1 (k+1) with _| (j|⟨x,j⟩)
  .rw[hx]at A;cases A
  .rw[hx]at A;cases A;go_wp2_with fail;refine(hE W1 1 (k+1) _ (by decide) h1 (hO.kp a3 c8) hx).mono ?_;rintro e W2 ⟨H,rfl⟩;exact⟨rfl,a3.trans H,rfl⟩
  .rw[hx,andT_ok]at A;go_wp2_with fail;refine(hE W1 1 (k+1) _ (by decide) h1 (hO.kp a3 c8) hx).mono ?_;rintro e W2 ⟨H,⟨cs,rfl,hX⟩,h2⟩;obtain⟨M,W,xs,X,V,Q,N⟩:=x;have b5:=hX;unfold ExL at hX;obtain⟨a,cap,rfl,i6,d4⟩:=hX;have a0:=a3.trans H;have a4:=a7.of (H.block _ (by omega) (by omega) (by omega));have d7:Xc (W2.alloc (.cells #[.int .i64 M,.int .i64 W,.string xs,.int .i64 X,.bool V,.int .i64 Q,.slice a N.length cap] 58)) W2.1.size (.int .i64 M) (.int .i64 W) (.string xs) (.int .i64 X) (.bool V) (.int .i64 Q) (.slice a N.length cap):=World.alloc_heap_new _ _;have i4:=H.size;have h3:=h2.alloc (.cells #[I M,I W,.string xs,I X,.bool V,I Q,.slice a N.length cap] 58)
   have d0:Kp W2 (W2.alloc (.cells #[I M,I W,.string xs,I X,.bool V,I Q,.slice a N.length cap] 58)) b b:=kp_same ((Below.refl _ W2).alloc rl _);go_wp2_with fail;generalize j0:W2.alloc (.cells #[I M,I W,.string xs,I X,.bool V,I Q,.slice a N.length cap] 58)=W3 at *;rcases hy:want S.T sShut j with _|R2
   .rw[hy]at A;cases A
   .refine(want_any h3 sShut hy).mono ?_;rintro e Y ⟨G,g4⟩;rcases R2 with j2|⟨_,j2⟩
    .rw[hy]at A;cases A;obtain rfl:=g4;exact⟨rfl,(a0.trans d0).trans G,rfl⟩
    .rw[hy]at A;cases A;obtain⟨rfl,E⟩:=g4;have b9:=d0.trans G;have D:=a0.trans b9;have g:=a4.of (b9.block z (by omega) (by omega) (by omega));have a1:=d7.of (G.block _ d7.lt (by omega) (by omega));have g5:ExL (W1.1.size<=·) Y _ _:=ExL.kp b5 b9 (by omega);have HE:=O (And.intro g (And.intro (ex_put (w:=w) g5 (z:=z) (by omega) j4) (And.intro D E)));have b8:W2.1.size≠z:=by omega
     have y0:=a1.c0;have y1:=a1.c1;have y2:=a1.c2;have y3:=a1.c3;have y4:=a1.c4;have y5:=a1.c5;have y6:=a1.c6;have d5:=g.c0;have t1:=g.c1;have t2:=g.c2;have t3:=g.c3;have t4:=g.c4;have t5:=g.c5;have t6:=g.c6;have f0:=g.frozen 0;have f1:=g.frozen 1;have f2:=g.frozen 2;have f3:=g.frozen 3;have f4:=g.frozen 4;have f5:=g.frozen 5;have f6:=g.frozen 6;go_wp2_with fail;obtain⟨g,hA,D,E⟩:=HE.o;have K:=kp_set7 D (z:=z) (by rw[HZ.o];exact Nat.le_refl _);refine end_ex (g.set _ _ _ _ _ _ _) rfl rfl rfl ⟨K _ _ _ _ _ _ _,⟨_,rfl,hA _ _ _ _ _ _ _⟩,?_⟩;exact HH.o.fin E (K _ _ _ _ _ _ _) (heap_set7 (by omega) _ _ _ _ _ _ _)
theorem two_args{ok:Nat->Prop}{x y:Ex}(E:ExL ok W [v0,v1,v2,v3,v4,v5,v6] x)(D:ExL ok W [v7,v8,v9,u0,u1,u2,u3] y)(j:ok W.1.size)(w:Nat):
  ExL ok (W.alloc (.cells #[v0,v1,v2,v3,v4,v5,v6,v7,v8,v9,u0,u1,u2,u3] 58)) [I 6,I 0,.string noB,I 0,.bool false,I w,.slice (some ⟨W.1.size,0,none⟩) 2 2] (exBin w x y):=by
 have A:(W.alloc (.cells #[v0,v1,v2,v3,v4,v5,v6,v7,v8,v9,u0,u1,u2,u3] 58)).1[W.1.size]? =some (.cells #[v0,v1,v2,v3,v4,v5,v6,v7,v8,v9,u0,u1,u2,u3] 58 (0,0)):=World.alloc_heap_new _ _;have C:∀ (c o:Nat) (v:Value),ok c->W.cellF ⟨c,o,none⟩=some v->(W.alloc (.cells #[v0,v1,v2,v3,v4,v5,v6,v7,v8,v9,u0,u1,u2,u3] 58)).cellF ⟨c,o,none⟩=some v:=fun c o v _ g=>by have F:=(World.grownBy_alloc W (.cells #[v0,v1,v2,v3,v4,v5,v6,v7,v8,v9,u0,u1,u2,u3] 58) none).block c (World.block_lt_of_cellF W g) (by simp);rw[<-g];simp[World.cellF,F]
 unfold exBin ExL;refine⟨some ⟨W.1.size,0,none⟩,2,z,⟨rl,by decide⟩,?_⟩;unfold ExsL;refine⟨⟨W.1.size,0,_,z,j,fun t v g=>?_,ExL.keep C E⟩,?_⟩
 .simp only[World.cellF,A];rcases t with _|_|_|_|_|_|_|t;all_goals first| (simp at g;done)|simpa using g
 .unfold ExsL;refine⟨⟨W.1.size,0,_,z,j,fun t v g=>?_,ExL.keep C D⟩,by unfold ExsL;trivial⟩;simp only[World.cellF,A];rcases t with _|_|_|_|_|_|_|t;all_goals first| (simp at g;done)|simpa using g
end Go.Proofs.YtgppcdfgdaggjaaGreatDoor
