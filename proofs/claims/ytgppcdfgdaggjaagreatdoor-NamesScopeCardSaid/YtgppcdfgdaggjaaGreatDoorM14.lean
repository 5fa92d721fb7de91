/- Texts laid together. No condition but what each law says. -/
import Derived.Test.YtgppcdfgdaggjaaGreatDoorM13
import Derived.Deep.WholeRow
set_option maxRecDepth 100000
set_option maxHeartbeats 16000000
namespace Go.Proofs.YtgppcdfgdaggjaaGreatDoor
open Go.RowKit Go.Maps Go.Proofs.Tryz
open Go renaming Ending→GP,TypeId→GA,Value→Fr,World→Fk,bodyPost→Gb,wpList→GY,wpList_load_mid→Gn,Calls→Jq,FuncId→Ig
open Option renaming map_eq_some_iff→Ga
open List renaming mem_cons→FQ,not_mem_nil→FO,mem_of_find?_eq_some→Gl,range→GU,find?_some→He,getElem?_map→HZ,find?_eq_none→Hb,getElem?_append_left→GN,getElem?_append_right→Gj,mem_map→HM,mem_map_of_mem→Jm,getElem?_eq_getElem→FC
open Go.World renaming alloc_heap_new→Df,cell?→FI,block_lt_of_cell?→FF,grownBy_alloc→Gz,setCell→Gc
open Bool renaming and_eq_true→FG,false_eq_true→FN,false_ne_true→FY,not_false→Hm,true_and→Gx
open And renaming intro→EQ
open Go.RowKit.Below renaming refl→FB,heap_setCell→FK,setCell→IK
open _root_.Array renaming getElem?_eq_some_iff→FT,getElem?_setIfInBounds→Hy
open Ne renaming symm→Gp
open Nat renaming le_refl→FL
open Go.Value renaming slice→Gd
open Go.Code renaming wp→FR
variable {b g i j k n n0:Nat}{A:Act}{W w w0:Fk}{S:bp}{s:ByteArray}{a a0:Option Addr}{v v0:Fr}{z0 z1:Bool}{B0:St}{l2:List Fr}{T0:List St}{p0 p1:Int}
theorem aC{T:GA}{d:TypeDesc}(j:prog.underlying T=some d)(H:d.isRow=true)(w:(prog.info? T).map (·.size)=some n){g:Func}{R:GP->Fk->Prop}{s:Tmp}{cs:List Fr}(h:ak W b T cs)(C:cs.length=n)(E:g.results= #[.cell s T])
  (G:A.tmps.getD s undef=Pt b)(hd:A.defers=[])(J:R (.returned (.agg cs.toArray)) W):Gb prog g R .ret A W:=by
 have F:A.tmps[s]?.getD undef=Pt b:=by rw[<-G];simp
 have D:=run_loadVar_mid (P:=prog) W b 0 T cs d h.whole j H (by rw[C];exact w);refine bodyPost_ret (v:= .agg cs.toArray) ?_ hd J;simp[results,E,F,asAddr,D]
theorem cv:∃d,prog.underlying 60=some d/\d.isRow=true:=by
 have h:(prog.underlying 60).map (·.isRow)=some true:=by kernel_rfl
 let ⟨d,j,g⟩:=Ga.1 h
 exact⟨d,j,g⟩
def da(li co:Int):List Fr:=[.int .i64 0,.int .i64 li,.int .i64 co,.string ⟨#[]⟩,.string ⟨#[]⟩,.int .i64 0,.int .i64 0,.string ⟨#[]⟩,.int .i64 0,.bool false,.int .i64 0,.slice none 0 0,.int .i64 0,.int .i64 0,.string ⟨#[]⟩,.int .i64 0,.bool false,.int .i64 0,.slice none 0 0,.slice none 0 0,.slice none 0 0,.int .i64 0,.int .i64 0,.int .i64 0,.bool false]
theorem hC(w j:Int):∀v∈da w j,v.oneCell'=true:=by intro v g;unfold da at g;simp only[FQ,FO,or_false]at g;rcases g with rfl|rfl|rfl|rfl|rfl|rfl|rfl|rfl|rfl|rfl|rfl|rfl|rfl|rfl|rfl|rfl|rfl|rfl|rfl|rfl|rfl|rfl|rfl|rfl|rfl<;>rfl
theorem bf{A:Array Oper}{C:List Oper}{o:Oper}{a:Act}{j:Exit->Act->Fk->Prop}{T:GA}(K:(prog.info? T).map (·.size)=some n)(G:o.guard=none)(x y:Operand)(D:o.op= .store T x y)
  (w0:Fk)(c cs:List Fr)(H:w=w0.alloc (.cells c.toArray T))(F:c.length=n)(g:cs.length=n)(N:∀v∈cs,v.oneCell'=true)(z:Nat)(E:w0.1.size=z)(J:a.eval x=Pt z)(M:a.eval y= .agg cs.toArray)
  (h:GY prog A j C (a.put o.dst undef) (w0.alloc (.cells cs.toArray T))):GY prog A j (o::C) a w:=by
 subst H;subst E;refine wpList_plain G fun R Q=>?_;unfold Oper.wp execOp;have:=run_storeAt_new (P:=prog) w0 T c.toArray cs.toArray (by rw[K];simp[g]) (by simp[F,g]) (all_oneCell_toArray N);simp only[D,J,M,Sem.run_bind,this,Result.andThen_ok];exact Q _ _ h
theorem Sb.fresh(B:Nat)(w:Fk)(j g:Int):Sb B (w.alloc (.cells (da j g).toArray 60)) w.1.size (aP 0 (j,g) aq aq aT aT [] []):=by refine⟨_,Df _ _,?_⟩;unfold aP bX da;exact⟨[I 0,I 0,.string ⟨#[]⟩,I 0,.bool false,I 0,.slice none 0 0],[I 0,I 0,.string ⟨#[]⟩,I 0,.bool false,I 0,.slice none 0 0],none,none,0,0,z,hD _ 0 0 ⟨#[]⟩,hD _ 0 0 ⟨#[]⟩,⟨rl,by decide⟩,by unfold aE;trivial,⟨rl,by decide⟩,by unfold aE;trivial⟩
theorem ac{j:Array Oper}{A:List Oper}{o:Oper}{a:Act}{g:Exit->Act->Fk->Prop}{T:GA}{d:TypeDesc}(G:prog.underlying T=some d)(K:d.isRow=true)(H:(prog.info? T).map (·.size)=some n)(E:o.guard=none)(x:Operand)(D:o.op= .load T x)
  (b:Nat)(cs:List Fr)(F:a.eval x=Pt b)(C:Hid (ak w b T cs))(J:cs.length=n)(h:GY prog j g A (a.put o.dst (.agg cs.toArray)) w):GY prog j g (o::A) a w:=
 Gn E T x D b 0 F cs d C.whole G K (by rw[J];exact H) h
theorem ab{A:Array Oper}{D:List Oper}{o:Oper}{a:Act}{j:Exit->Act->Fk->Prop}{T:GA}(J:(prog.info? T).map (·.size)=some n)(G:o.guard=none)(x y:Operand)(F:o.op= .store T x y)
  (b:Nat)(cs C:List Fr)(H:a.eval x=Pt b)(M:a.eval y= .agg cs.toArray)(E:Hid (ak w b T C))(K:C.length=n)(g:cs.length=n)(N:∀v∈cs,v.oneCell'=true)(h:GY prog A j D (a.put o.dst undef) (w.setCells b 0 cs)):GY prog A j (o::D) a w:=
 wpList_store_mid G T x y F b 0 cs.toArray H M (E.there (by simp[K,g])) (by rw[J];simp[g]) (all_oneCell_toArray N) (by simpa using h)
theorem hh{sb z B:Nat}{C:List Fr}{st:St}(K:Rw w b S g)(N:Kp w W b b)(_:Sb B W sb st)(h:Rw W b S j)(F:ak W z 60 C)(H:C.length=25)(J:w.1.size<=z)(Q:z<B)(U:b<w.1.size){cs:List Fr}(D:ak W sb 60 cs/\bX (fun c=>B<=c/\c≠sb) W cs st):
  ak (W.setCells z 0 cs) z 60 cs/\WP w b S (.ok (st,j)) (Ag w) (.returned (.agg cs.toArray)) (W.setCells z 0 cs):=by
 have G:=D.2.cells.1;have E:=Kp.Dn J cs 0 N;refine⟨F.DK (by rw[G,H]),E,⟨cs,rfl,?_⟩,K.fin h E (au (by omega) cs 0 W)⟩;refine bX.CQ (fun c A=> (by have:=A.1;omega:w.1.size<=c)) (bX.keep (fun c o v A M=>?_) D.2);rw[<-M];simp[FI,au (w:=W) (vs:=cs) (o:=0) (show c≠z by have:=A.1;omega)]
theorem sy(g:Fn)(a c:Array Fr)(w:Fk):(binOp .eql 154 (.func g a c) .nilFunc).run prog w= .ok (.bool false) w:=by kernel_rfl
theorem wJ(w:Fk):(binOp .eql 154 .nilFunc .nilFunc).run prog w= .ok (.bool true) w:=by kernel_rfl
def zq(T:List Wd)(k:Nat):List (St->Nat->PR St):=if k=1 then [kd T,AO T,lx T] else if k=8∨k=12 then [kd T,pR T] else if k=11 then [kd T,lx T] else if k=14 then [] else if k=15 then [lx T] else [kd T]
theorem uP(s:ByteArray):bQ s<16:=by
 unfold bQ;rcases hf:(GU 16).find? fun k=>decide (fk.getD k aq≠aq)&&decide (fk.getD k aq=s) with _|k
 .exact Nat.zero_lt_succ _
 .have:=Gl hf;simpa using this
theorem wG(s:ByteArray):bQ s≠2/\bQ s≠3:=by
 unfold bQ;rcases hf:(GU 16).find? fun k=>decide (fk.getD k aq≠aq)&&decide (fk.getD k aq=s) with _|k
 .exact⟨by decide,by decide⟩
 .have:=He hf;simp only[FG,decide_eq_true_eq]at this;refine⟨fun e=>?_,fun e=>?_⟩
  .have g:=e;subst g;exact this.1 z
  .have g:=e;subst g;exact this.1 z
theorem ud(T:List Wd)(p:Int×Int)(k i:Nat)(h:k<16)(D:k≠0)(A:k≠2)(w:k≠3)(C:k≠4)(E:k≠5):
  (ap (ia (zq T k) ((aP 0 p aq aq aT aT [] []).setKind k) i) fun st j=>oH T st j)=aW T p k i:=by
 have g:k=1∨k=6∨k=7∨k=8∨k=9∨k=10∨k=11∨k=12∨k=13∨k=14∨k=15:=by omega
 rcases g with rfl|rfl|rfl|rfl|rfl|rfl|rfl|rfl|rfl|rfl|rfl;all_goals
  simp[zq,aW,ia,kd,AO,lx,pR,oH,gp,aP,St.setKind,St.setName,St.DH,St.Dh]
theorem sh(F:b≠0){B sb:Nat}{p:Int×Int}{R:Except Nat (St×Nat)}{fv:Fr}(h:Rw w b S k)(M:hR w)(C:hr w b fv (bQ s) (jR (bQ s)))(N:oa S sb)(J:b<B)(X:B<=sb)
  (W:Sb B w sb (aP 0 p aq aq aT aT [] []))(K:bQ s≠0)(h4:¬bQ s=4)(V:¬bQ s=5)(j:aW S.T p (bQ s) k=some R):
  ∃H D:Nat,fv= .func (.func 110) #[] #[Pt H,Pt D]/\Jq prog 110 #[Pt b,Pt sb,Pt H,Pt D] w (SP w b sb B S R):=by
 have U:=uP s;have E:=wG s;rw[<-ud S.T p (bQ s) k U K E.1 E.2 h4 V]at j;generalize bQ s=q at *;refine pq (G:=zq S.T q) F ?_ ?_ h M C N J X W j ?_;all_goals
  have g:q=1∨q=6∨q=7∨q=8∨q=9∨q=10∨q=11∨q=12∨q=13∨q=14∨q=15:=by omega
 .have Z:=ro (b:=b) (S:=S);have Y:=rv (b:=b) (S:=S);have a0:=rG (b:=b) (S:=S) F;have Q:=wg (b:=b) (S:=S);intro i A;rcases g with rfl|rfl|rfl|rfl|rfl|rfl|rfl|rfl|rfl|rfl|rfl;all_goals
   rcases i with _|_|_|i;all_goals first
    |exact⟨_,z,.inl z,Z⟩
    |exact⟨_,z,.inr (.inl z),Y⟩
    |exact⟨_,z,.inr (.inr (.inl z)),a0⟩
    |exact⟨_,z,.inr (.inr (.inr z)),Q⟩
    | (exfalso;simp[jR]at A;omega)
    | (exfalso;simp[jR]at A;done)
 .rcases g with rfl|rfl|rfl|rfl|rfl|rfl|rfl|rfl|rfl|rfl|rfl<;>rfl
 .rcases g with rfl|rfl|rfl|rfl|rfl|rfl|rfl|rfl|rfl|rfl|rfl<;>decide
theorem qC{f:Nat}(a8:b≠0)(hB:CB b S f):CS b S (f+1):=by
 intro w k R h hO i4 HR;rw[pS]at HR;let ⟨j1,b4,a6⟩:=cv
 have d9:=h.lt;have j0:=h.mx;have j4:=h.le;have HH:=O h;have h0:=h.alloc (.cells fW 60);have hp:=fd h0;have f6:=pV S.T S.en k;let ⟨wd,e0⟩:=eX (bo S.T S.en k)
 have g7:k<S.T.length->wd=S.T.getD k default:=fun e=>by rw[<-e0];unfold bo;rw[aD e]
 rw[e0]at hp f6;let ⟨kd,E,M,C,A⟩:=wd
 have V:=O (EQ g7 (show kd=ba S.T k from f6));clear e0 f6 g7 h;have g9:ak (w.alloc (.cells fW 60)) w.1.size 60 fW.toList:=Df _ _;have f9:Kp w (w.alloc (.cells fW 60)) b b:=(Kp.refl w b b).alloc _;have g5:(w.alloc (.cells fW 60)).1.size=w.1.size+1:=by simp
 go_in;go_wp2_with fail;apply hp.mono;rintro e G ⟨rfl,d4⟩;simp only[Wd.val];have h1:=h0.below d4;have h6:=g9.below d4;have h8:=f9.trans (bi (b:=b) d4);have i3:=d4.size;rw[g5]at i3;clear h0 g9 f9 d4 hp g5;have f2:(G.alloc (.cells #[I kd,.string E,I M,I C,I A] 142)).1.size=G.1.size+1:=by simp
 have g8:Tk (G.alloc (.cells #[I kd,.string E,I M,I C,I A] 142)) G.1.size kd E M (C,A):=Df _ _;have e9:=g8.alloc (.cells (da C A).toArray 60);have h2:=(h1.alloc (.cells #[I kd,.string E,I M,I C,I A] 142)).alloc (.cells (da C A).toArray 60);have a7:=(h6.alloc (.cells #[I kd,.string E,I M,I C,I A] 142)).alloc (.cells (da C A).toArray 60);have Y:=(h8.alloc (.cells #[I kd,.string E,I M,I C,I A] 142)).alloc (.cells (da C A).toArray 60);have Q:=Sb.fresh G.1.size (G.alloc (.cells #[I kd,.string E,I M,I C,I A] 142)) C A;rw[f2]at Q;have f8:=e9.c0;have t1:=e9.c1;have HE:=O (EQ h2 (EQ a7 (EQ Y Q)));clear e9 g8 h2 a7 Y Q h1 h6 h8;have d3:b<G.1.size:=by omega
 by_cases f3:kd=1
 .subst f3;go_wp2_with (with_reducible refine s0 60 ?_;refine bf ar z (.tmp 4) (.tmp 12) z (G.alloc (.cells #[I 1,.string E,I M,I C,I A] 142)) fW.toList (da C A) z z z (hC C A) _ f2 z z ?_);let ⟨h2,a7,Y,Q⟩:=HE
  clear HE f8 t1;let ⟨sb,e7⟩:=eX (G.1.size+1)
  rw[e7]at Q ⊢;generalize (G.alloc (.cells #[I 1,.string E,I M,I C,I A] 142)).alloc (.cells (da C A).toArray 60)=U at *;have hA:=HH.EW (sb:=sb) (by omega);have d5:=cR S.T (i:=k) (by rw[<-V.o.2];decide);have D:=HR;have f5:cB S.T k=(C,A):=by unfold cB;rw[<-V.o.1 d5]
  rw[aD V.o.2.symm,f5,<-qV]at D;apply (oc a8 U G.1.size sb k _ R h2 (hO.kp Y a8) hA d3 (by omega) Q D).mono;rintro e W3 ⟨b6,g3⟩;have b8:=Y.drop b6 (by omega);rcases R with j|⟨st,j⟩
  .obtain rfl:=g3;exact⟨z,b8,z⟩
  .obtain⟨rfl,d6,h3⟩:=g3;have i7:=d6;let ⟨cs,K,F⟩:=i7
   have d8:=a7.kp b6 (by omega) (by omega);have J:=F.cells.1;have b5:=F.cells.2;have b7:=O K;have HZ:=O d8;have N:=O (hh HH b8 d6 h3 d8 z rl (by omega) d9 ⟨K,F⟩);clear b8 d6 h3 d8 K F b6 h2 a7 Y Q hB D;go_wp2_with (first| (with_reducible refine l0 60 ?_;refine ac b4 a6 ar z (.tmp 4) z sb cs z b7 J ?_)| (with_reducible refine s0 60 ?_;refine ab ar z (.tmp 2) (.tmp 18) z w.1.size cs fW.toList z z HZ z J b5 ?_));exact aC b4 a6 ar N.1 J z z z N.2
 .have j5:(kd==1)=false:=by simpa using f3
  go_upto_region 6 with (with_reducible refine s0 60 ?_;refine bf ar z (.tmp 4) (.tmp 12) z (G.alloc (.cells #[I kd,.string E,I M,I C,I A] 142)) fW.toList (da C A) z z z (hC C A) _ f2 z z ?_);let ⟨h2,a7,Y,Q⟩:=HE
  clear HE;let ⟨sb,e7⟩:=eX (G.1.size+1)
  rw[e7]at Q ⊢;generalize (G.alloc (.cells #[I kd,.string E,I M,I C,I A] 142)).alloc (.cells (da C A).toArray 60)=U at *;have hA:=HH.EW (sb:=sb) (by omega);have D:=HR;rw[am (fun e=>f3 (V.o.2.trans e))]at D;have f4:=i4.kp Y rl;let ⟨g,l,n,i0,j2,hg,g4⟩:=f4.mp
  have hv:=g4 E;let ⟨v,Z⟩:=eX (((eB l E).map fun p=>p.2.1).getD .nilFunc)
  have i9:∀n,(Instr.lookup 86 (.map (some g)) (.string E) false).run prog (U.drewN n)= .ok v (U.drewN n):=fun m=>by rw[<-Z];exact uX (w:=U.drewN m) hg E
  have c4:=h2.c4;rw[i0]at c4;go_quiet (fail);rename_i nq;have h3:=h2.drewN nq;have d6:=Q.drewN nq;have d8:=a7.drewN nq;have b8:=Y.drewN nq;have h7:nj (U.drewN nq) b S:=f4.keep (fun _ _ _=>z);have d0:(U.drewN nq).cell? (ad G.1.size 0)=some (I kd):=f8;have h9:∀s,gs (U.drewN nq) b (bQ s) ((eB l s).map fun p=>p.2.1):=by
   obtain⟨g',l',n',e1,-,e2,e3⟩:=h7.mp;rw[i0]at e1;cases e1;have e4:(U.drewN nq).1[g]? =some (.map (l.map dK).toArray n):=hg;rw[e4]at e2;intro s;have e5:l=l':=by
    have e6:(l.map dK)=(l'.map dK):=by simpa using(Obj.map.inj (Option.some.inj e2)).1
    exact List.map_inj_right (fun a b e8=>by
     let ⟨a1,a2,a3⟩:=a
     let ⟨b1,b2,b3⟩:=b
     unfold dK at e8;simp at e8;let ⟨q1,q2,q3⟩:=e8
     rw[q1,q2,q3])|>.1 e6
   rw[e5];exact e3 s
  have X:=h9 E;generalize U.drewN nq=a9 at *;have c1:=h3.c1;have f1:=h3.frozen 1;by_cases b6:kd=3
  .subst b6;have d5:=cR S.T (i:=k) (by rw[<-V.o.2];decide);have i1:(S.T.getD k default).text=E:=by rw[<-V.o.1 d5]
   have f5:cB S.T k=(C,A):=by unfold cB;rw[<-V.o.1 d5]
   rw[i1,f5]at D;have i5:ba S.T k=3:=V.2.symm;have h4:=h3.step d5;have b9:=d6.kp ((Kp.refl a9 b b).Dg 1 (I ((k:Int)+1))) d3 (by omega);have c8:=d8.kp ((Kp.refl a9 b b).Dg 1 (I ((k:Int)+1))) (by omega) (by omega);have c9:=h7.kp ((Kp.refl a9 b b).Dg 1 (I ((k:Int)+1))) rl;have a4:=b8.Dg 1 (I ((k:Int)+1));unfold gs at X;by_cases d1:bQ E=0
   .rw[aD d1]at X;rw[aD (.inr d1)]at D;cases D;rw[X]at Z;obtain rfl:Value.nilFunc=v:=Z;have f7:=wJ;go_wp2_with fail;apply (gI h3).mono;rintro e W5 ⟨rfl,f0⟩;exact⟨z,b8.trans (bi f0),z⟩
   .rw[am d1]at X;rw[am (fun e=>e.elim (fun e=>e i5) d1)]at D;by_cases H:bQ E=5
    .rw[aD H]at D;rw[am (by omega),aD H]at X;rw[X]at Z;obtain rfl:Value.func (.func 74) #[] #[]=v:=Z;have f7:=sy (.func 74) #[] #[];go_wp2_with fail;generalize a9.setCell (ad b 1) (I ((k:Int)+1))=V4 at *;apply (pm a8 hB V4 G.1.size sb (k+1) (aP 0 (C,A) aq aq aT aT [] []) R h4 (hO.kp a4 a8) c9 hA d3 (by omega) b9 D).mono;rintro e W5 ⟨j7,a5⟩;have W:=a4.drop j7 (by omega);rcases R with j|⟨st,j⟩
     .obtain rfl:=a5;exact⟨z,W,z⟩
     .obtain⟨rfl,H,h5⟩:=a5;have d7:=H;let ⟨cs,K,F⟩:=d7
      have j6:=c8.kp j7 (by omega) (by omega);have J:=F.cells.1;have b5:=F.cells.2;have b7:=O K;have HZ:=O j6;have N:=O (hh HH W H h5 j6 z rl (by omega) d9 ⟨K,F⟩);go_wp2_with (first| (with_reducible refine l0 60 ?_;refine ac b4 a6 ar z (.tmp 4) z sb cs z b7 J ?_)| (with_reducible refine s0 60 ?_;refine ab ar z (.tmp 2) (.tmp 49) z w.1.size cs fW.toList z z HZ z J b5 ?_));exact aC b4 a6 ar N.1 J z z z N.2
    .rw[am H]at D;by_cases d2:bQ E=4
     .rw[aD d2]at D;rw[aD d2]at X;rw[X]at Z;obtain rfl:Value.func (.func 71) #[] #[]=v:=Z;have f7:=sy (.func 71) #[] #[];go_wp2_with fail;generalize a9.setCell (ad b 1) (I ((k:Int)+1))=V4 at *;apply (xs a8 hB V4 G.1.size sb (k+1) (aP 0 (C,A) aq aq aT aT [] []) R h4 (hO.kp a4 a8) c9 hA d3 (by omega) b9 D).mono;rintro e W5 ⟨j7,a5⟩;have W:=a4.drop j7 (by omega);rcases R with j|⟨st,j⟩
      .obtain rfl:=a5;exact⟨z,W,z⟩
      .obtain⟨rfl,H,h5⟩:=a5;have d7:=H;let ⟨cs,K,F⟩:=d7
       have j6:=c8.kp j7 (by omega) (by omega);have J:=F.cells.1;have b5:=F.cells.2;have b7:=O K;have HZ:=O j6;have N:=O (hh HH W H h5 j6 z rl (by omega) d9 ⟨K,F⟩);go_wp2_with (first| (with_reducible refine l0 60 ?_;refine ac b4 a6 ar z (.tmp 4) z sb cs z b7 J ?_)| (with_reducible refine s0 60 ?_;refine ab ar z (.tmp 2) (.tmp 49) z w.1.size cs fW.toList z z HZ z J b5 ?_));exact aC b4 a6 ar N.1 J z z z N.2
     .rw[am d2]at D;rw[am d2,am H]at X;let ⟨fv,i8,hP⟩:=X
      rw[i8]at Z;obtain rfl:fv=v:=Z;have g6:=hP.keep (w':=a9.setCell (ad b 1) (I ((k:Int)+1))) (fun c hc K=> ((Kp.refl a9 b b).Dg 1 (I ((k:Int)+1))).block c hc (by omega) (by omega));let ⟨g1,g2,i6,i2⟩:=sh a8 h4 (hO.kp a4 a8) g6 hA d3 (by omega) b9 d1 d2 H D
      subst i6;have f7:=sy (.func 110) #[] #[Pt g1,Pt g2];go_wp2_with fail;generalize a9.setCell (ad b 1) (I ((k:Int)+1))=V4 at *;apply (i2).mono;rintro e W5 ⟨j7,a5⟩;have W:=a4.drop j7 (by omega);rcases R with j|⟨st,j⟩
      .obtain rfl:=a5;exact⟨z,W,z⟩
      .obtain⟨rfl,H,h5⟩:=a5;have d7:=H;let ⟨cs,K,F⟩:=d7
       have j6:=c8.kp j7 (by omega) (by omega);have J:=F.cells.1;have b5:=F.cells.2;have b7:=O K;have HZ:=O j6;have N:=O (hh HH W H h5 j6 z rl (by omega) d9 ⟨K,F⟩);go_wp2_with (first| (with_reducible refine l0 60 ?_;refine ac b4 a6 ar z (.tmp 4) z sb cs z b7 J ?_)| (with_reducible refine s0 60 ?_;refine ab ar z (.tmp 2) (.tmp 49) z w.1.size cs fW.toList z z HZ z J b5 ?_));exact aC b4 a6 ar N.1 J z z z N.2
  .have j3:(kd !=3)=true:=by simpa using b6
   rw[aD (.inl (fun e=>b6 (V.o.2.trans e)))]at D;cases D;go_wp2_with fail;apply (gI h3).mono;rintro e W5 ⟨rfl,f0⟩;exact⟨z,b8.trans (bi f0),z⟩
theorem tK(D:b≠0):∀f,(∀g,g<=f->CB b S g)/\(∀g,g<=f->CS b S g):=by
 intro f;induction f with
 |zero=>
  refine⟨fun g A=>?_,fun g A=>?_⟩
  .obtain rfl:g=0:=by omega
   intro w k R h H G j;rw[qk]at j;cases j
  .obtain rfl:g=0:=by omega
   intro w k R h H G j;rw[pH]at j;cases j
 |succ f F=>
  let ⟨C,E⟩:=F
  refine⟨fun g A=>?_,fun g A=>?_⟩
  .by_cases h:g<=f
   .exact C g h
   .obtain rfl:g=f+1:=by omega
    exact px D E
  .by_cases h:g<=f
   .exact E g h
   .obtain rfl:g=f+1:=by omega
    exact qC D (C f rl)
theorem lZ(A:b≠0)(h:Rw w b S k)(j:hR w)(g:nj w b S){R:Except Nat (List St×Nat)}(C:rb S.T k=some R):
  Jq prog 72 #[Pt b] w (WP w b S R (xF w)):=(tK A (3*S.T.length+3)).1 _ rl w k R h j g C
theorem cE{kind:Nat}{cap:Nat}{g:List Ig}(h:∀i,i<g.length->∃j A,a=some (ad j A)/\w.cell? (ad j (A+i))=some (.func (.func (g.getD i 0)) #[] #[]))(n:Nat)(E:g.length=n):
  Jq prog 70 #[I kind,.slice a n cap] w fun e w'=>∃v,e= .returned v/\bL w w'/\hr w' w'.1.size v kind g:=by
 subst E;go_in;go_wp2;go_ret;refine⟨_,z,((FB _ w).alloc rl _).alloc (by simp) _,w.1.size,w.1.size+1,a,cap,z,by simp;omega,?_,by simp,?_,fun i H=>?_⟩
 .exact((ak.new w 53 [I kind]).alloc (.cells #[.slice a g.length cap] 195)).cell 0
 .simp
 .let ⟨j,A,G,C⟩:=h i H
  have D:=FF w _ C;have F:j<w.1.size:=D;refine⟨j,A,G,by simp;omega,?_⟩;rw[<-C];have J:=(((FB _ w).alloc rl (.cells #[I kind] 53)).alloc (by simp) (.cells #[.slice a g.length cap] 195)).block j F;simp only[FI,J]
theorem gs.move{w':Fk}{b':Nat}{v:Option Fr}(h:gs w b k v)(X:b<=b')(g:∀ (c o:Nat) (u:Fr),c<b->w.cell? (ad c o)=some u->w'.cell? (ad c o)=some u):gs w' b' k v:=by
 unfold gs at h ⊢;split
 .rw[aD (by assumption)]at h;exact h
 rename_i F;rw[am F]at h;split
 .rw[aD (by assumption)]at h;exact h
 rename_i G;rw[am G]at h;split
 .rw[aD (by assumption)]at h;exact h
 rename_i R;rw[am R]at h;let ⟨fv,D,W,M,a,cap,Q,U,V,K,H,N⟩:=h
 refine⟨fv,D,W,M,a,cap,Q,by omega,g _ _ _ U V,by omega,g _ _ _ K H,fun i J=>?_⟩;let ⟨j,C,E,S,A⟩:=N i J
 exact⟨j,C,E,by omega,g _ _ _ S A⟩
structure uD (w0 w:Fk) (g:Nat) (ks:List Nat):Prop where
 EN:Below w0.1.size w0 w
 g0:w0.1.size<=g
 mp:∃ (l:pe) (n:Nat),w.1[g]? =some (.map (l.map dK).toArray n)/\l.map (fun p=>p.1)=ks.map (fun k=>fk.getD k aq)/\∀ (i:Nat) (p:ByteArray×Fr×Nat) (k:Nat),l[i]? =some p->ks[i]? =some k->gs w w.1.size k (some p.2.1)
theorem uD.below{w':Fk}{A:List Nat}(h:uD w0 w g A)(j:bL w w'):uD w0 w' g A:=by
 let ⟨l,n,C,G,F⟩:=h.mp
 have J:=h.EN.size;refine⟨h.EN.trans (j.mono J),h.g0,l,n,(j.block g (FT.1 C).1).trans C,G,fun i p k E H=> (F i p k E H).move j.size (fun c o u K D=>?_)⟩;rw[<-D];simp[FI,j.block c K]
theorem uD.put{E:List Nat}(h:uD w0 w g E)(hv:gs w w.1.size k (some v))(s:ByteArray)(Z:s=fk.getD k aq)(U:(E.all fun j=>decide (fk.getD j aq≠s))=true):
  ∃W,(Instr.mapUpdate 86 (.map (some g)) (.string s) v).run prog w= .ok () W/\uD w0 W g (E++[k])/\W.1.size=w.1.size:=by
 let ⟨l,n,F,G,R⟩:=h.mp
 have Y:eB l s=none:=by
  unfold eB;rw[Hb];intro p A;have N:p.1∈l.map (fun p=>p.1):=Jm A;rw[G]at N;let ⟨j,D,a2⟩:=HM.1 N
  have Q:=List.all_eq_true.1 U j D;simp only[decide_eq_true_eq]at Q;simp only[decide_eq_true_eq];intro e;exact Q (a2.trans e)
 have X:=(FT.1 F).1;refine⟨_,yw F s v Y,?_,by simp⟩;have V:({w with heap:=w.1.setIfInBounds g (.map ((l++[(s,v,n)]).map dK).toArray (n+1))}:Fk).1[g]? =some (.map ((l++[(s,v,n)]).map dK).toArray (n+1)):=by show (w.1.setIfInBounds g _)[g]? =_;rw[Hy];simp[X]
 have K:∀c,c≠g->({w with heap:=w.1.setIfInBounds g (.map ((l++[(s,v,n)]).map dK).toArray (n+1))}:Fk).1[c]? =w.1[c]? :=fun c C=>by show (w.1.setIfInBounds g _)[c]? =_;rw[Hy];simp[Gp C]
 have J:∀ (c o:Nat) (u:Fr),c<w.1.size->w.cell? (ad c o)=some u->({w with heap:=w.1.setIfInBounds g (.map ((l++[(s,v,n)]).map dK).toArray (n+1))}:Fk).cell? (ad c o)=some u:=fun c o u _ M=>by
  by_cases C:c=g
  .subst C;simp[FI,F]at M
  .rw[<-M];simp only[FI];rw[K c C]
 refine⟨⟨h.EN.os,h.EN.tape,h.EN.output,by simpa using h.EN.size,fun c C=> (K c (by have:=h.g0;omega)).trans (h.EN.block c C)⟩,h.g0,_,_,V,by simp[G,Z],fun i p j A D=>?_⟩;have S:l.length=E.length:=by have:=congrArg List.length G;simpa using this
 rcases Nat.lt_or_ge i l.length with H|H
 .rw[GN H]at A;rw[GN (by omega)]at D;exact(R i p j A D).move (by simp) J
 .have a3:i<l.length+1:=by have:=(List.getElem?_eq_some_iff.1 A).1;simpa using this
  obtain rfl:i=l.length:=by omega
  rw[Gj rl]at A;rw[Gj (by omega)]at D;have a1:p=(s,v,n):=by simpa using A.symm
  have a0:j=k:=by simpa [S]using D.symm
  subst a1;subst a0;exact hv.move (by simp) J
def fx:List Nat:=[1,6,7,8,9,10,11,12,13,14,15,4,5]
theorem rP:∀k,k<16->fk.getD k aq≠aq->k∈fx:=by decide
theorem wj:∀k∈fx,bQ (fk.getD k aq)=k:=by decide
theorem uD.reads(h:uD w0 w g fx):∃ (l:pe) (n:Nat),w.1[g]? =some (.map (l.map dK).toArray n)/\∀s,gs w w.1.size (bQ s) ((eB l s).map fun p=>p.2.1):=by
 let ⟨l,n,R,F,Q⟩:=h.mp
 refine⟨l,n,R,fun s=>?_⟩;have S:l.length=fx.length:=by have:=congrArg List.length F;simpa using this
 rcases hf:eB l s with _|p
 .have N:bQ s=0:=by
   unfold bQ;rcases hg:(GU 16).find? fun k=>decide (fk.getD k aq≠aq)&&decide (fk.getD k aq=s) with _|k
   .rfl
   .have G:=Gl hg;have j:=He hg;simp only[FG,decide_eq_true_eq]at j;have A:=rP k (by simpa using G) j.1;have C:fk.getD k aq∈l.map (fun p=>p.1):=by rw[F];exact Jm (f:=fun k=>fk.getD k aq) A
    let ⟨p,E,D⟩:=HM.1 C
    unfold eB at hf;have K:=Hb.1 hf p E;simp only[decide_eq_true_eq]at K;exact absurd (D.trans j.2) K
  unfold gs;rw[aD N];rfl
 .unfold eB at hf;have E:=Gl hf;have D:=He hf;simp only[decide_eq_true_eq]at D;let ⟨i,J,H⟩:=List.mem_iff_getElem.1 E
  have M:fx[i]? =some (fx[i]'(by omega)):=FC (by omega);have G:=Q i p _ (by rw[<-H];exact FC J) M;have j:p.1=fk.getD (fx[i]'(by omega)) aq:=by
   have A:(l.map (fun p=>p.1))[i]? =(fx.map (fun k=>fk.getD k aq))[i]? :=by rw[F]
   rw[HZ,HZ,M,FC J,H]at A;simpa using A
  have C:=wj _ (List.getElem_mem (by omega:i<fx.length));rw[<-j,D]at C;rw[C];exact G
theorem rq(w:Fk):Jq prog 31 #[] w fun e w'=>∃g,e= .returned (.map (some g))/\uD w w' g fx:=by
 have j:Hid (uD w (w.alloc (.map #[] 0)) w.1.size []):=O ⟨(FB _ w).alloc rl _,rl,[],0,Df _ _,z,fun i p k h=>by simp at h⟩;have j4:(Instr.makeMap 86 none).run prog w= .ok (.map (some w.1.size)) (w.alloc (.map #[] 0)):=by kernel_rfl
 go_in;go_wp2_with fail;let ⟨g,hg⟩:=eX (w.1.size)
 rw[hg]at j ⊢;have a2:∀i,i< [63,68,66].length->∃A C,(some ⟨(w.alloc (.map #[] 0)).1.size,0,none⟩:Option Addr)=some (ad A C)/\((w.alloc (.map #[] 0)).alloc (.cells #[.func (.func 63) #[] #[],.func (.func 68) #[] #[],.func (.func 66) #[] #[]] 154)).cell? (ad A (C+i))=some (.func (.func (([63,68,66]:List Ig).getD i 0)) #[] #[]):=fun i D=>by
  refine⟨_,0,z,?_⟩;rw[(ak.new (w.alloc (.map #[] 0)) 154 [.func (.func 63) #[] #[],.func (.func 68) #[] #[],.func (.func 66) #[] #[]]).cell];rcases i with _|_|_|i
  .rfl
  .rfl
  .rfl
  .simp at D;try omega
 have Z:Below (w.alloc (.map #[] 0)).1.size (w.alloc (.map #[] 0)) ((w.alloc (.map #[] 0)).alloc (.cells #[.func (.func 63) #[] #[],.func (.func 68) #[] #[],.func (.func 66) #[] #[]] 154)):=(FB _ _).alloc rl _;have h6:(w.alloc (.map #[] 0)).1.size=g+1:=by rw[<-hg];simp
 rw[h6]at a2;refine(cE (kind:=1) a2 3 z).mono ?_;rintro e V0 ⟨v0,rfl,f6,a6⟩;have g2:=j.below (Z.trans (f6.mono Z.size));obtain⟨F,i5,e7,-⟩:=g2.put (k:=1) (v:=v0) ⟨v0,z,a6⟩ ⟨#[108,101,116]⟩ z (by decide);have j:=O e7;go_wp2_with fail;have e6:∀i,i< [63].length->∃A C,(some (ad F.1.size 0):Option Addr)=some (ad A C)/\(F.alloc (.cells #[.func (.func 63) #[] #[]] 154)).cell? (ad A (C+i))=some (.func (.func (([63]:List Ig).getD i 0)) #[] #[]):=fun i D=>by
  refine⟨_,0,z,?_⟩;rw[(ak.new F 154 [.func (.func 63) #[] #[]]).cell];rcases i with _|i
  .rfl
  .simp at D;try omega
 have V:bL F (F.alloc (.cells #[.func (.func 63) #[] #[]] 154)):=(FB _ _).alloc rl _;refine(cE (kind:=6) e6 1 z).mono ?_;rintro e V1 ⟨v1,rfl,e5,a7⟩;have d0:=j.below (V.trans (e5.mono V.size));obtain⟨J,h8,a8,-⟩:=d0.put (k:=6) (v:=v1) ⟨v1,z,a7⟩ ⟨#[108,111,99,107]⟩ z (by decide);have j:=O a8;go_wp2_with fail;have e3:∀i,i< [63].length->∃A C,(some (ad J.1.size 0):Option Addr)=some (ad A C)/\(J.alloc (.cells #[.func (.func 63) #[] #[]] 154)).cell? (ad A (C+i))=some (.func (.func (([63]:List Ig).getD i 0)) #[] #[]):=fun i D=>by
  refine⟨_,0,z,?_⟩;rw[(ak.new J 154 [.func (.func 63) #[] #[]]).cell];rcases i with _|i
  .rfl
  .simp at D;try omega
 have a4:bL J (J.alloc (.cells #[.func (.func 63) #[] #[]] 154)):=(FB _ _).alloc rl _;refine(cE (kind:=7) e3 1 z).mono ?_;rintro e V2 ⟨v2,rfl,d1,g8⟩;have g5:=j.below (a4.trans (d1.mono a4.size));obtain⟨N,i7,g4,-⟩:=g5.put (k:=7) (v:=v2) ⟨v2,z,g8⟩ ⟨#[117,110,108,111,99,107]⟩ z (by decide);have j:=O g4;go_wp2_with fail;have a9:∀i,i< [63,65].length->∃A C,(some (ad N.1.size 0):Option Addr)=some (ad A C)/\(N.alloc (.cells #[.func (.func 63) #[] #[],.func (.func 65) #[] #[]] 154)).cell? (ad A (C+i))=some (.func (.func (([63,65]:List Ig).getD i 0)) #[] #[]):=fun i D=>by
  refine⟨_,0,z,?_⟩;rw[(ak.new N 154 [.func (.func 63) #[] #[],.func (.func 65) #[] #[]]).cell];rcases i with _|_|i
  .rfl
  .rfl
  .simp at D;try omega
 have W:bL N (N.alloc (.cells #[.func (.func 63) #[] #[],.func (.func 65) #[] #[]] 154)):=(FB _ _).alloc rl _;refine(cE (kind:=8) a9 2 z).mono ?_;rintro e V3 ⟨v3,rfl,d9,h1⟩;have b9:=j.below (W.trans (d9.mono W.size));obtain⟨M,j0,h2,-⟩:=b9.put (k:=8) (v:=v3) ⟨v3,z,h1⟩ ⟨#[119,97,105,116]⟩ z (by decide);have j:=O h2;go_wp2_with fail;have d2:∀i,i< [63].length->∃A C,(some (ad M.1.size 0):Option Addr)=some (ad A C)/\(M.alloc (.cells #[.func (.func 63) #[] #[]] 154)).cell? (ad A (C+i))=some (.func (.func (([63]:List Ig).getD i 0)) #[] #[]):=fun i D=>by
  refine⟨_,0,z,?_⟩;rw[(ak.new M 154 [.func (.func 63) #[] #[]]).cell];rcases i with _|i
  .rfl
  .simp at D;try omega
 have X:bL M (M.alloc (.cells #[.func (.func 63) #[] #[]] 154)):=(FB _ _).alloc rl _;refine(cE (kind:=9) d2 1 z).mono ?_;rintro e V4 ⟨v4,rfl,f2,d3⟩;have g7:=j.below (X.trans (f2.mono X.size));obtain⟨Q,h9,e1,-⟩:=g7.put (k:=9) (v:=v4) ⟨v4,z,d3⟩ ⟨#[115,105,103,110,97,108]⟩ z (by decide);have j:=O e1;go_wp2_with fail;have e8:∀i,i< [63].length->∃A C,(some (ad Q.1.size 0):Option Addr)=some (ad A C)/\(Q.alloc (.cells #[.func (.func 63) #[] #[]] 154)).cell? (ad A (C+i))=some (.func (.func (([63]:List Ig).getD i 0)) #[] #[]):=fun i D=>by
  refine⟨_,0,z,?_⟩;rw[(ak.new Q 154 [.func (.func 63) #[] #[]]).cell];rcases i with _|i
  .rfl
  .simp at D;try omega
 have U:bL Q (Q.alloc (.cells #[.func (.func 63) #[] #[]] 154)):=(FB _ _).alloc rl _;refine(cE (kind:=10) e8 1 z).mono ?_;rintro e V5 ⟨v5,rfl,d8,f1⟩;have b6:=j.below (U.trans (d8.mono U.size));obtain⟨H,h7,h3,-⟩:=b6.put (k:=10) (v:=v5) ⟨v5,z,f1⟩ ⟨#[97,108,108]⟩ z (by decide);have j:=O h3;go_wp2_with fail;have d6:∀i,i< [63,66].length->∃A C,(some (ad H.1.size 0):Option Addr)=some (ad A C)/\(H.alloc (.cells #[.func (.func 63) #[] #[],.func (.func 66) #[] #[]] 154)).cell? (ad A (C+i))=some (.func (.func (([63,66]:List Ig).getD i 0)) #[] #[]):=fun i D=>by
  refine⟨_,0,z,?_⟩;rw[(ak.new H 154 [.func (.func 63) #[] #[],.func (.func 66) #[] #[]]).cell];rcases i with _|_|i
  .rfl
  .rfl
  .simp at D;try omega
 have Y:bL H (H.alloc (.cells #[.func (.func 63) #[] #[],.func (.func 66) #[] #[]] 154)):=(FB _ _).alloc rl _;refine(cE (kind:=11) d6 2 z).mono ?_;rintro e V6 ⟨v6,rfl,f3,h4⟩;have f7:=j.below (Y.trans (f3.mono Y.size));obtain⟨K,i9,f8,-⟩:=f7.put (k:=11) (v:=v6) ⟨v6,z,h4⟩ ⟨#[115,101,110,100]⟩ z (by decide);have j:=O f8;go_wp2_with fail;have b4:∀i,i< [63,65].length->∃A C,(some (ad K.1.size 0):Option Addr)=some (ad A C)/\(K.alloc (.cells #[.func (.func 63) #[] #[],.func (.func 65) #[] #[]] 154)).cell? (ad A (C+i))=some (.func (.func (([63,65]:List Ig).getD i 0)) #[] #[]):=fun i D=>by
  refine⟨_,0,z,?_⟩;rw[(ak.new K 154 [.func (.func 63) #[] #[],.func (.func 65) #[] #[]]).cell];rcases i with _|_|i
  .rfl
  .rfl
  .simp at D;try omega
 have a1:bL K (K.alloc (.cells #[.func (.func 63) #[] #[],.func (.func 65) #[] #[]] 154)):=(FB _ _).alloc rl _;refine(cE (kind:=12) b4 2 z).mono ?_;rintro e V7 ⟨v7,rfl,b5,e2⟩;have c8:=j.below (a1.trans (b5.mono a1.size));obtain⟨E,i6,g1,-⟩:=c8.put (k:=12) (v:=v7) ⟨v7,z,e2⟩ ⟨#[114,101,99,118]⟩ z (by decide);have j:=O g1;go_wp2_with fail;have b7:∀i,i< [63].length->∃A C,(some (ad E.1.size 0):Option Addr)=some (ad A C)/\(E.alloc (.cells #[.func (.func 63) #[] #[]] 154)).cell? (ad A (C+i))=some (.func (.func (([63]:List Ig).getD i 0)) #[] #[]):=fun i D=>by
  refine⟨_,0,z,?_⟩;rw[(ak.new E 154 [.func (.func 63) #[] #[]]).cell];rcases i with _|i
  .rfl
  .simp at D;try omega
 have S:bL E (E.alloc (.cells #[.func (.func 63) #[] #[]] 154)):=(FB _ _).alloc rl _;refine(cE (kind:=13) b7 1 z).mono ?_;rintro e V8 ⟨v8,rfl,e9,f0⟩;have b8:=j.below (S.trans (e9.mono S.size));obtain⟨R,i3,e4,-⟩:=b8.put (k:=13) (v:=v8) ⟨v8,z,f0⟩ ⟨#[115,112,97,119,110]⟩ z (by decide);have j:=O e4;go_wp2_with fail;have a5:∀i,i< ([]:List Ig).length->∃A C,(none:Option Addr)=some (ad A C)/\R.cell? (ad A (C+i))=some (.func (.func (([]:List Ig).getD i 0)) #[] #[]):=fun i D=>by simp at D
 have a0:bL R R:=FB _ _;refine(cE (kind:=14) a5 0 z).mono ?_;rintro e V9 ⟨v9,rfl,f4,h5⟩;have c9:=j.below (a0.trans (f4.mono a0.size));obtain⟨G,i4,g9,-⟩:=c9.put (k:=14) (v:=v9) ⟨v9,z,h5⟩ ⟨#[106,111,105,110]⟩ z (by decide);have j:=O g9;go_wp2_with fail;have h0:∀i,i< [66].length->∃A C,(some (ad G.1.size 0):Option Addr)=some (ad A C)/\(G.alloc (.cells #[.func (.func 66) #[] #[]] 154)).cell? (ad A (C+i))=some (.func (.func (([66]:List Ig).getD i 0)) #[] #[]):=fun i D=>by
  refine⟨_,0,z,?_⟩;rw[(ak.new G 154 [.func (.func 66) #[] #[]]).cell];rcases i with _|i
  .rfl
  .simp at D;try omega
 have a3:bL G (G.alloc (.cells #[.func (.func 66) #[] #[]] 154)):=(FB _ _).alloc rl _;refine(cE (kind:=15) h0 1 z).mono ?_;rintro e j3 ⟨f9,rfl,f5,d7⟩;have g6:=j.below (a3.trans (f5.mono a3.size));obtain⟨i8,j2,e0,-⟩:=g6.put (k:=15) (v:=f9) ⟨f9,z,d7⟩ ⟨#[112,114,105,110,116]⟩ z (by decide);have j:=O e0;obtain⟨i1,i0,d4,-⟩:=j.put (k:=4) (v:= .func (.func 71) #[] #[]) z ⟨#[105,102]⟩ z (by decide);have j:=O d4;obtain⟨j1,i2,d5,-⟩:=j.put (k:=5) (v:= .func (.func 74) #[] #[]) z ⟨#[119,104,105,108,101]⟩ z (by decide);have j:=O d5;go_wp2;go_ret;exact⟨g,z,j⟩
theorem ek:∃d,prog.underlying 46=some d/\d.isRow=true:=by
 have h:(prog.underlying 46).map (·.isRow)=some true:=by kernel_rfl
 let ⟨d,j,g⟩:=Ga.1 h
 exact⟨d,j,g⟩
theorem aR:(prog.info? 46).map (·.size)=some 6:=by kernel_rfl
theorem vw(T:List Wd)(i:Nat):ca T i=if cr T i (gw.getD 1 aq)=true then 1 else if cr T i (gw.getD 2 aq)=true then 2 else if cr T i (gw.getD 3 aq)=true then 3 else if cr T i (gw.getD 4 aq)=true then 4 else if cr T i (gw.getD 5 aq)=true then 5 else if cr T i (gw.getD 6 aq)=true then 6 else 0:=by unfold ca;rw[show GU 7=[0,1,2,3,4,5,6] from z];generalize F:cr T i=g;cases D:g (gw.getD 1 aq)<;>cases w:g (gw.getD 2 aq)<;>cases j:g (gw.getD 3 aq)<;>cases C:g (gw.getD 4 aq)<;>cases E:g (gw.getD 5 aq)<;>cases A:g (gw.getD 6 aq)<;>simp only[List.find?_cons,D,w,j,C,E,A]<;>rfl
def zU(w:Fk)(d:De)(e:GP)(w':Fk):Prop:=∃cs:List Fr,e= .returned (.agg cs.toArray)/\fS (w.1.size<=·) w' cs d
theorem ed{y z:Nat}{d:De}{cs C:List Fr}(K:Rw w b S g)(N:Kp w W b b)(h:Rw W b S j)(F:ak W z 46 C)(H:C.length=6)(J:w.1.size<=z)(Q:b<w.1.size)
  (D:fS (fun c=>w.1.size<=c/\c≠y/\c≠z) W cs d):ak (W.setCells z 0 cs) z 46 cs/\WP w b S (.ok (d,j)) (zU w) (.returned (.agg cs.toArray)) (W.setCells z 0 cs):=by
 have G:=D.cells.1;have E:=Kp.Dn J cs 0 N;refine⟨F.DK (by rw[G,H]),E,⟨cs,rfl,?_⟩,K.fin h E (au (by omega) cs 0 W)⟩;refine fS.CQ (fun c A=>A.1) (fS.keep (fun c o v A M=>?_) D);rw[<-M];simp[FI,au (w:=W) (vs:=cs) (o:=0) A.2.2]
theorem ni{T:List Wd}(g:∀i,0<=(T.getD i default).num/\(T.getD i default).num<=2147483647){n:Int}(h:bG T i=some (.ok (n,j))):0<=n/\n<=2147483647:=by
 unfold bG at h;split at h
 .cases h;exact g i
 .cases h
theorem cL{y:Nat}(D:Rw w b S k)(g:Kp w W b b)(h:Rw W b S j)(A:w.1.size<=y)(C:y≠b)(o:Nat)(u:Fr):Rw (W.setCell (ad y o) u) b S j:=
 D.fin h (g.R A o u) (FK W (ad y o) u b (Gp C))
theorem gZ{ok:Nat->Prop}(W:Fk)(k j g n:Int)(s:ByteArray):fS ok W [I k,I j,I g,.string s,I n,.slice none 0 0] (bZ k (j,g) s n []):=⟨none,0,z,⟨rl,by decide⟩,by unfold bZ aE;trivial⟩
theorem nv(g7:b≠0)(hN:∀i,0<=(S.T.getD i default).num/\(S.T.getD i default).num<=2147483647)(h:Rw w b S k)(hO:hR w)(i9:nj w b S){R:Except Nat (De×Nat)}(g:pD S.T k=some R):
  Jq prog 76 #[Pt b] w (WP w b S R (zU w)):=by
 unfold pD at g;have a3:=vw S.T k;let ⟨k8,d5,d4⟩:=ek
 have e9:=h.lt;have HH:=O h;have h0:=h.alloc (.cells #[I 0,I 0,I 0,.string ⟨#[]⟩,I 0,.slice none 0 0] 46);have hp:=fd h0;let ⟨wd,g8⟩:=eX (bo S.T S.en k)
 have i3:k<S.T.length->wd=S.T.getD k default:=fun e=>by rw[<-g8];unfold bo;rw[aD e]
 rw[g8]at hp;let ⟨kd,tx,nu,C,A⟩:=wd
 have hf:=pK kd tx nu C A;have HA:=O i3;clear g8 i3 h;have i5:ak (w.alloc (.cells #[I 0,I 0,I 0,.string ⟨#[]⟩,I 0,.slice none 0 0] 46)) w.1.size 46 [I 0,I 0,I 0,.string ⟨#[]⟩,I 0,.slice none 0 0]:=Df _ _;have i0:Kp w (w.alloc (.cells #[I 0,I 0,I 0,.string ⟨#[]⟩,I 0,.slice none 0 0] 46)) b b:=(Kp.refl w b b).alloc _;have i2:(w.alloc (.cells #[I 0,I 0,I 0,.string ⟨#[]⟩,I 0,.slice none 0 0] 46)).1.size=w.1.size+1:=by simp
 go_in;go_wp2_with fail;apply hp.mono;rintro e W1 ⟨rfl,g1⟩;simp only[Wd.val];have h1:=(h0.below g1).alloc (.cells #[I 0,I C,I A,.string ⟨#[]⟩,I 0,.slice none 0 0] 46);have i7:=(i5.below g1).alloc (.cells #[I 0,I C,I A,.string ⟨#[]⟩,I 0,.slice none 0 0] 46);have i8:=(i0.trans (bi (b:=b) g1)).alloc (.cells #[I 0,I C,I A,.string ⟨#[]⟩,I 0,.slice none 0 0] 46);have g9:ak (W1.alloc (.cells #[I 0,I C,I A,.string ⟨#[]⟩,I 0,.slice none 0 0] 46)) W1.1.size 46 [I 0,I C,I A,.string ⟨#[]⟩,I 0,.slice none 0 0]:=Df _ _;have i6:=g1.size;rw[i2]at i6;have k1:(W1.alloc (.cells #[I 0,I C,I A,.string ⟨#[]⟩,I 0,.slice none 0 0] 46)).1.size=W1.1.size+1:=by simp
 clear h0 i5 i0 g1 hp i2;go_wp2_with fail;let ⟨y,hy⟩:=eX (W1.1.size)
 rw[hy]at g9 i6 k1 ⊢;generalize W1.alloc (.cells #[I 0,I C,I A,.string ⟨#[]⟩,I 0,.slice none 0 0] 46)=W at *;have j:y≠b:=by omega
 have E:w.1.size≠b:=by omega
 have b9:w.1.size≠y:=by omega
 have F:w.1.size<=y:=by omega
 apply (bD h1 (gw.getD 1 aq)).mono;rintro e W2 ⟨g4,rfl,h2⟩;have g5:=g9.kp g4 j j;have g6:=i7.kp g4 E E;have g2:=i8.trans g4;let ⟨m,hm⟩:=eX (cr S.T k (gw.getD 1 aq))
 rw[hm]at h2 a3;rw[hm];clear hm g4;clear h1 i8 g9 i7;cases m;case true=>
  have a5:ca S.T k=1:=by simpa using a3
  clear a3;have e0:=eJ S.T (i:=k) (by rw[a5];decide);have e1:cB S.T k=(C,A):=by unfold cB;rw[<-HA.o e0]
  rw[a5,e1,am (by decide)]at g;simp only[if_true]at h2;clear a5;go_wp2_with fail;rcases hx3:aV S.T (k+1) with _| (j3|⟨x3,j3⟩)
  .rw[hx3]at g;cases g
  .rw[hx3]at g;cases g;apply (cn h2 hx3).mono;rintro e W3 ⟨d9,rfl⟩;exact⟨z,g2.trans d9,z⟩
  rw[hx3,ay]at g;apply (cn h2 hx3).mono;rintro e W3 ⟨d9,rfl,h3⟩;have e2:=g5.kp d9 j j;have f6:=g6.kp d9 E E;have e5:=g2.trans d9;clear h2 g2 g5 g6 hx3 d9;have c0:=e2.cell 0;have f0:=e2.frozen 0;have c3:=e2.cell 3;have f3:=e2.frozen 3;have c9:ak ((W3.setCell (ad y 0) (I 1)).setCell (ad y 3) (.string x3)) y 46 [I 1,I C,I A,.string x3,I 0,.slice none 0 0]:=((e2.set1 0 (I 1)).set1 3 (.string x3));have d7:=((f6.other b9 0 (I 1)).other b9 3 (.string x3));have h4:=(cL HH (e5.R F 0 (I 1)) (cL HH e5 h3 F j 0 (I 1)) F j 3 (.string x3));have d1:=((e5.R F 0 (I 1)).R F 3 (.string x3));have X:=O (EQ c9 (EQ d7 (EQ h4 d1)));clear c9 d7 h4 d1 e2 f6 h3 e5;go_wp2_with fail;clear c0 f0 c3 f3
  let ⟨c9,d7,h4,d1⟩:=X
  clear X;generalize (W3.setCell (ad y 0) (I 1)).setCell (ad y 3) (.string x3)=W4 at *;rw[aD (by decide)]at g;rcases hx5:aU S.T iE j3 with _| (j5|⟨x5,j5⟩)
  .rw[hx5]at g;cases g
  .rw[hx5]at g;cases g;apply (aX h4 iE hx5).mono;rintro e W5 ⟨c8,rfl⟩;exact⟨z,d1.trans c8,z⟩
  rw[hx5,ay]at g;apply (aX h4 iE hx5).mono;rintro e W5 ⟨c8,rfl,h5⟩;have b6:=c9.kp c8 j j;have d2:=d7.kp c8 E E;have b7:=d1.trans c8;clear h4 d1 c9 d7 hx5 c8;go_wp2_with fail;apply (bD h5 eg).mono;rintro e W6 ⟨a4,rfl,U⟩;have a2:=b6.kp a4 j j;have a6:=d2.kp a4 E E;have a0:=b7.trans a4;let ⟨m,hm⟩:=eX (cr S.T j5 eg)
  rw[hm]at U g;rw[hm];clear hm a4;clear h5 b7 b6 d2;cases m;case false=>
   rw[am FY]at g;simp only[FN,if_false]at U;go_wp2_with fail;rcases hx7:bG S.T j5 with _| (j7|⟨D,j7⟩)
   .rw[hx7]at g;cases g
   .rw[hx7]at g;cases g;apply (eG U hx7).mono;rintro e W7 ⟨N,rfl⟩;exact⟨z,a0.trans N,z⟩
   rw[hx7,ay]at g;apply (eG U hx7).mono;rintro e W7 ⟨N,rfl,M⟩;have H:=a2.kp N j j;have a1:=a6.kp N E E;have J:=a0.trans N;have k2:=ni hN hx7;clear U a0 a2 a6 hx7 N;have c4:=H.cell 4;have f4:=H.frozen 4;have Q:ak (W7.setCell (ad y 4) (I D)) y 46 [I 1,I C,I A,.string x3,I D,.slice none 0 0]:=(H.set1 4 (I D));have Z:=(a1.other b9 4 (I D));have Y:=(cL HH J M F j 4 (I D));have V:=(J.R F 4 (I D));have X:=O (EQ Q (EQ Z (EQ Y V)));clear Q Z Y V H a1 M J;go_wp2_with fail;clear c4 f4;let ⟨Q,Z,Y,V⟩:=X
   clear X;generalize W7.setCell (ad y 4) (I D)=W8 at *;rcases hx9:aU S.T aI j7 with _| (j9|⟨x9,j9⟩)
   .rw[hx9]at g;cases g
   .rw[hx9]at g;cases g;apply (aX Y aI hx9).mono;rintro e W9 ⟨b5,rfl⟩;exact⟨z,V.trans b5,z⟩
   rw[hx9,ay]at g;apply (aX Y aI hx9).mono;rintro e W9 ⟨b5,rfl,h9⟩;have b8:=Q.kp b5 j j;have d0:=Z.kp b5 E E;have a8:=V.trans b5;clear Y V Q Z hx9 b5;cases g;have G:fS (fun c=>w.1.size<=c/\c≠y/\c≠w.1.size) W9 [I 1,I C,I A,.string x3,I D,.slice none 0 0] (bZ 1 (C,A) x3 D []):=gZ _ 1 C A D x3;have G:=ed (y:=y) HH a8 h9 d0 z rl e9 G;have a7:∀v∈ ([I 1,I C,I A,.string x3,I D,.slice none 0 0]:List Fr),v.oneCell'=true:=by intro v hv;simp only[FQ,FO,or_false]at hv;rcases hv with rfl|rfl|rfl|rfl|rfl|rfl<;>rfl
   have K:([I 1,I C,I A,.string x3,I D,.slice none 0 0]:List Fr).length=6:=z;obtain⟨cs,a9⟩:=eX ([I 1,I C,I A,.string x3,I D,.slice none 0 0]);rw[a9]at G a7 K b8;clear a9;have d6:=O b8;have HZ:=O d0;have HF:=O G;clear b8 d0 h9 a8 G;go_wp2_with (first| (with_reducible refine l0 46 ?_;refine ac d5 d4 aR z (.tmp 3) z y cs z d6 K ?_)| (with_reducible refine s0 46 ?_;refine ab aR z (.tmp 2) (.tmp 117) z w.1.size cs _ z z HZ z K a7 ?_));exact aC d5 d4 aR HF.1 K z z z HF.2
  case true=>
   rw[aD rfl]at g;simp only[if_true]at U;go_wp2_with fail;rcases hx7:bG S.T (j5+1) with _| (j7|⟨D,j7⟩)
   .rw[hx7]at g;cases g
   .rw[hx7]at g;cases g;apply (eG U hx7).mono;rintro e W7 ⟨N,rfl⟩;exact⟨z,a0.trans N,z⟩
   rw[hx7,ay]at g;apply (eG U hx7).mono;rintro e W7 ⟨N,rfl,M⟩;have H:=a2.kp N j j;have a1:=a6.kp N E E;have J:=a0.trans N;have k2:=ni hN hx7;clear U a0 a2 a6 hx7 N;have hw:IntKind.i64.wrap (-D)= -D:=by rw[IntKind.wrap_i64];omega
   have c4:=H.cell 4;have f4:=H.frozen 4;have Q:ak ((W7.setCell (ad y 4) (I D)).setCell (ad y 4) (I (-D))) y 46 [I 1,I C,I A,.string x3,I (-D),.slice none 0 0]:=(H.set1 4 (I D)).set1 4 (I (-D));have Z:=(a1.other b9 4 (I D)).other b9 4 (I (-D));have Y:=cL HH (J.R F 4 (I D)) (cL HH J M F j 4 (I D)) F j 4 (I (-D));have V:=(J.R F 4 (I D)).R F 4 (I (-D));have X:=O (EQ Q (EQ Z (EQ Y V)));clear Q Z Y V H a1 M J;go_wp2_with fail;clear c4 f4 hw;let ⟨Q,Z,Y,V⟩:=X
   clear X;generalize (W7.setCell (ad y 4) (I D)).setCell (ad y 4) (I (-D))=W8 at *;rcases hx9:aU S.T aI j7 with _| (j9|⟨x9,j9⟩)
   .rw[hx9]at g;cases g
   .rw[hx9]at g;cases g;apply (aX Y aI hx9).mono;rintro e W9 ⟨b5,rfl⟩;exact⟨z,V.trans b5,z⟩
   rw[hx9,ay]at g;apply (aX Y aI hx9).mono;rintro e W9 ⟨b5,rfl,h9⟩;have b8:=Q.kp b5 j j;have d0:=Z.kp b5 E E;have a8:=V.trans b5;clear Y V Q Z hx9 b5;cases g;have G:fS (fun c=>w.1.size<=c/\c≠y/\c≠w.1.size) W9 [I 1,I C,I A,.string x3,I (-D),.slice none 0 0] (bZ 1 (C,A) x3 (-D) []):=gZ _ 1 C A (-D) x3;have G:=ed (y:=y) HH a8 h9 d0 z rl e9 G;have a7:∀v∈ ([I 1,I C,I A,.string x3,I (-D),.slice none 0 0]:List Fr),v.oneCell'=true:=by intro v hv;simp only[FQ,FO,or_false]at hv;rcases hv with rfl|rfl|rfl|rfl|rfl|rfl<;>rfl
   have K:([I 1,I C,I A,.string x3,I (-D),.slice none 0 0]:List Fr).length=6:=z;obtain⟨cs,a9⟩:=eX ([I 1,I C,I A,.string x3,I (-D),.slice none 0 0]);rw[a9]at G a7 K b8;clear a9;have d6:=O b8;have HZ:=O d0;have HF:=O G;clear b8 d0 h9 a8 G;go_wp2_with (first| (with_reducible refine l0 46 ?_;refine ac d5 d4 aR z (.tmp 3) z y cs z d6 K ?_)| (with_reducible refine s0 46 ?_;refine ab aR z (.tmp 2) (.tmp 117) z w.1.size cs _ z z HZ z K a7 ?_));exact aC d5 d4 aR HF.1 K z z z HF.2
 case false=>
  simp only[FN,if_false]at h2;rw[am FY]at a3;go_wp2_with fail;apply (bD h2 (gw.getD 2 aq)).mono;rintro e W3 ⟨d9,rfl,h3⟩;have e2:=g5.kp d9 j j;have f6:=g6.kp d9 E E;have e5:=g2.trans d9;let ⟨m,hm⟩:=eX (cr S.T k (gw.getD 2 aq))
  rw[hm]at h3 a3;rw[hm];clear hm d9;clear h2 g2 g5 g6;cases m;case true=>
   have a5:ca S.T k=2:=by simpa using a3
   clear a3;have e0:=eJ S.T (i:=k) (by rw[a5];decide);have e1:cB S.T k=(C,A):=by unfold cB;rw[<-HA.o e0]
   rw[a5,e1,am (by decide)]at g;simp only[if_true]at h3;clear a5;go_wp2_with fail;rcases hx4:aV S.T (k+1) with _| (j4|⟨x4,j4⟩)
   .rw[hx4]at g;cases g
   .rw[hx4]at g;cases g;apply (cn h3 hx4).mono;rintro e W4 ⟨d8,rfl⟩;exact⟨z,e5.trans d8,z⟩
   rw[hx4,ay]at g;apply (cn h3 hx4).mono;rintro e W4 ⟨d8,rfl,h4⟩;have c9:=e2.kp d8 j j;have d7:=f6.kp d8 E E;have d1:=e5.trans d8;clear h3 e5 e2 f6 hx4 d8;have c0:=c9.cell 0;have f0:=c9.frozen 0;have c3:=c9.cell 3;have f3:=c9.frozen 3;have b6:ak ((W4.setCell (ad y 0) (I 2)).setCell (ad y 3) (.string x4)) y 46 [I 2,I C,I A,.string x4,I 0,.slice none 0 0]:=((c9.set1 0 (I 2)).set1 3 (.string x4));have d2:=((d7.other b9 0 (I 2)).other b9 3 (.string x4));have h5:=(cL HH (d1.R F 0 (I 2)) (cL HH d1 h4 F j 0 (I 2)) F j 3 (.string x4));have b7:=((d1.R F 0 (I 2)).R F 3 (.string x4));have X:=O (EQ b6 (EQ d2 (EQ h5 b7)));clear b6 d2 h5 b7 c9 d7 h4 d1;go_wp2_with fail;clear c0 f0 c3 f3
   let ⟨b6,d2,h5,b7⟩:=X
   clear X;generalize (W4.setCell (ad y 0) (I 2)).setCell (ad y 3) (.string x4)=W5 at *;rw[am (by decide),aD (by decide)]at g;rcases hx6:bG S.T j4 with _| (j6|⟨x6,j6⟩)
   .rw[hx6]at g;cases g
   .rw[hx6]at g;cases g;apply (eG h5 hx6).mono;rintro e W6 ⟨a4,rfl⟩;exact⟨z,b7.trans a4,z⟩
   rw[hx6,ay]at g;apply (eG h5 hx6).mono;rintro e W6 ⟨a4,rfl,U⟩;have a2:=b6.kp a4 j j;have a6:=d2.kp a4 E E;have a0:=b7.trans a4;clear h5 b7 b6 d2 hx6 a4;have c4:=a2.cell 4;have f4:=a2.frozen 4;have H:ak (W6.setCell (ad y 4) (I x6)) y 46 [I 2,I C,I A,.string x4,I x6,.slice none 0 0]:=(a2.set1 4 (I x6));have a1:=(a6.other b9 4 (I x6));have M:=(cL HH a0 U F j 4 (I x6));have J:=(a0.R F 4 (I x6));have X:=O (EQ H (EQ a1 (EQ M J)));clear H a1 M J a2 a6 U a0;go_wp2_with fail;clear c4 f4;let ⟨H,a1,M,J⟩:=X
   clear X;generalize W6.setCell (ad y 4) (I x6)=W7 at *;rcases hx8:aU S.T aI j6 with _| (j8|⟨x8,j8⟩)
   .rw[hx8]at g;cases g
   .rw[hx8]at g;cases g;apply (aX M aI hx8).mono;rintro e W8 ⟨b4,rfl⟩;exact⟨z,J.trans b4,z⟩
   rw[hx8,ay]at g;apply (aX M aI hx8).mono;rintro e W8 ⟨b4,rfl,Y⟩;have Q:=H.kp b4 j j;have Z:=a1.kp b4 E E;have V:=J.trans b4;clear M J H a1 hx8 b4;cases g;have G:fS (fun c=>w.1.size<=c/\c≠y/\c≠w.1.size) W8 [I 2,I C,I A,.string x4,I x6,.slice none 0 0] (bZ 2 (C,A) x4 x6 []):=gZ _ 2 C A x6 x4;have G:=ed (y:=y) HH V Y Z z rl e9 G;have a7:∀v∈ ([I 2,I C,I A,.string x4,I x6,.slice none 0 0]:List Fr),v.oneCell'=true:=by intro v hv;simp only[FQ,FO,or_false]at hv;rcases hv with rfl|rfl|rfl|rfl|rfl|rfl<;>rfl
   have K:([I 2,I C,I A,.string x4,I x6,.slice none 0 0]:List Fr).length=6:=z;obtain⟨cs,a9⟩:=eX ([I 2,I C,I A,.string x4,I x6,.slice none 0 0]);rw[a9]at G a7 K Q;clear a9;have d6:=O Q;have HZ:=O Z;have HF:=O G;clear Q Z Y V G;go_wp2_with (first| (with_reducible refine l0 46 ?_;refine ac d5 d4 aR z (.tmp 3) z y cs z d6 K ?_)| (with_reducible refine s0 46 ?_;refine ab aR z (.tmp 2) (.tmp 117) z w.1.size cs _ z z HZ z K a7 ?_));exact aC d5 d4 aR HF.1 K z z z HF.2
  case false=>
   simp only[FN,if_false]at h3;rw[am FY]at a3;go_wp2_with fail;apply (bD h3 (gw.getD 3 aq)).mono;rintro e W4 ⟨d8,rfl,h4⟩;have c9:=e2.kp d8 j j;have d7:=f6.kp d8 E E;have d1:=e5.trans d8;let ⟨m,hm⟩:=eX (cr S.T k (gw.getD 3 aq))
   rw[hm]at h4 a3;rw[hm];clear hm d8;clear h3 e5 e2 f6;cases m;case true=>
    have a5:ca S.T k=3:=by simpa using a3
    clear a3;have e0:=eJ S.T (i:=k) (by rw[a5];decide);have e1:cB S.T k=(C,A):=by unfold cB;rw[<-HA.o e0]
    rw[a5,e1,am (by decide)]at g;simp only[if_true]at h4;clear a5;go_wp2_with fail;rcases hx5:aV S.T (k+1) with _| (j5|⟨x5,j5⟩)
    .rw[hx5]at g;cases g
    .rw[hx5]at g;cases g;apply (cn h4 hx5).mono;rintro e W5 ⟨c8,rfl⟩;exact⟨z,d1.trans c8,z⟩
    rw[hx5,ay]at g;apply (cn h4 hx5).mono;rintro e W5 ⟨c8,rfl,h5⟩;have b6:=c9.kp c8 j j;have d2:=d7.kp c8 E E;have b7:=d1.trans c8;clear h4 d1 c9 d7 hx5 c8;have c0:=b6.cell 0;have f0:=b6.frozen 0;have c3:=b6.cell 3;have f3:=b6.frozen 3;have a2:ak ((W5.setCell (ad y 0) (I 3)).setCell (ad y 3) (.string x5)) y 46 [I 3,I C,I A,.string x5,I 0,.slice none 0 0]:=((b6.set1 0 (I 3)).set1 3 (.string x5));have a6:=((d2.other b9 0 (I 3)).other b9 3 (.string x5));have U:=(cL HH (b7.R F 0 (I 3)) (cL HH b7 h5 F j 0 (I 3)) F j 3 (.string x5));have a0:=((b7.R F 0 (I 3)).R F 3 (.string x5));have X:=O (EQ a2 (EQ a6 (EQ U a0)));clear a2 a6 U a0 b6 d2 h5 b7;go_wp2_with fail;clear c0 f0 c3 f3;let ⟨a2,a6,U,a0⟩:=X
    clear X;generalize (W5.setCell (ad y 0) (I 3)).setCell (ad y 3) (.string x5)=W6 at *;rw[am (by decide),am (by decide),am (by decide)]at g;rcases hx7:aU S.T aI j5 with _| (j7|⟨D,j7⟩)
    .rw[hx7]at g;cases g
    .rw[hx7]at g;cases g;apply (aX U aI hx7).mono;rintro e W7 ⟨N,rfl⟩;exact⟨z,a0.trans N,z⟩
    rw[hx7,ay]at g;apply (aX U aI hx7).mono;rintro e W7 ⟨N,rfl,M⟩;have H:=a2.kp N j j;have a1:=a6.kp N E E;have J:=a0.trans N;clear U a0 a2 a6 hx7 N;cases g;have G:fS (fun c=>w.1.size<=c/\c≠y/\c≠w.1.size) W7 [I 3,I C,I A,.string x5,I 0,.slice none 0 0] (bZ 3 (C,A) x5 0 []):=gZ _ 3 C A 0 x5;have G:=ed (y:=y) HH J M a1 z rl e9 G;have a7:∀v∈ ([I 3,I C,I A,.string x5,I 0,.slice none 0 0]:List Fr),v.oneCell'=true:=by intro v hv;simp only[FQ,FO,or_false]at hv;rcases hv with rfl|rfl|rfl|rfl|rfl|rfl<;>rfl
    have K:([I 3,I C,I A,.string x5,I 0,.slice none 0 0]:List Fr).length=6:=z;obtain⟨cs,a9⟩:=eX ([I 3,I C,I A,.string x5,I 0,.slice none 0 0]);rw[a9]at G a7 K H;clear a9;have d6:=O H;have HZ:=O a1;have HF:=O G;clear H a1 M J G;go_wp2_with (first| (with_reducible refine l0 46 ?_;refine ac d5 d4 aR z (.tmp 3) z y cs z d6 K ?_)| (with_reducible refine s0 46 ?_;refine ab aR z (.tmp 2) (.tmp 117) z w.1.size cs _ z z HZ z K a7 ?_));exact aC d5 d4 aR HF.1 K z z z HF.2
   case false=>
    simp only[FN,if_false]at h4;rw[am FY]at a3;go_wp2_with fail;apply (bD h4 (gw.getD 4 aq)).mono;rintro e W5 ⟨c8,rfl,h5⟩;have b6:=c9.kp c8 j j;have d2:=d7.kp c8 E E;have b7:=d1.trans c8;let ⟨m,hm⟩:=eX (cr S.T k (gw.getD 4 aq))
    rw[hm]at h5 a3;rw[hm];clear hm c8;clear h4 d1 c9 d7;cases m;case true=>
     have a5:ca S.T k=4:=by simpa using a3
     clear a3;have e0:=eJ S.T (i:=k) (by rw[a5];decide);have e1:cB S.T k=(C,A):=by unfold cB;rw[<-HA.o e0]
     rw[a5,e1,am (by decide)]at g;simp only[if_true]at h5;clear a5;go_wp2_with fail;rcases hx6:aV S.T (k+1) with _| (j6|⟨x6,j6⟩)
     .rw[hx6]at g;cases g
     .rw[hx6]at g;cases g;apply (cn h5 hx6).mono;rintro e W6 ⟨a4,rfl⟩;exact⟨z,b7.trans a4,z⟩
     rw[hx6,ay]at g;apply (cn h5 hx6).mono;rintro e W6 ⟨a4,rfl,U⟩;have a2:=b6.kp a4 j j;have a6:=d2.kp a4 E E;have a0:=b7.trans a4;clear h5 b7 b6 d2 hx6 a4;have c0:=a2.cell 0;have f0:=a2.frozen 0;have c3:=a2.cell 3;have f3:=a2.frozen 3;have H:ak ((W6.setCell (ad y 0) (I 4)).setCell (ad y 3) (.string x6)) y 46 [I 4,I C,I A,.string x6,I 0,.slice none 0 0]:=((a2.set1 0 (I 4)).set1 3 (.string x6));have a1:=((a6.other b9 0 (I 4)).other b9 3 (.string x6));have M:=(cL HH (a0.R F 0 (I 4)) (cL HH a0 U F j 0 (I 4)) F j 3 (.string x6));have J:=((a0.R F 0 (I 4)).R F 3 (.string x6));have X:=O (EQ H (EQ a1 (EQ M J)));clear H a1 M J a2 a6 U a0;go_wp2_with fail;clear c0 f0 c3 f3;let ⟨H,a1,M,J⟩:=X
     clear X;generalize (W6.setCell (ad y 0) (I 4)).setCell (ad y 3) (.string x6)=W7 at *;rw[am (by decide),am (by decide),am (by decide)]at g;rcases hx8:aU S.T aI j6 with _| (j8|⟨x8,j8⟩)
     .rw[hx8]at g;cases g
     .rw[hx8]at g;cases g;apply (aX M aI hx8).mono;rintro e W8 ⟨b4,rfl⟩;exact⟨z,J.trans b4,z⟩
     rw[hx8,ay]at g;apply (aX M aI hx8).mono;rintro e W8 ⟨b4,rfl,Y⟩;have Q:=H.kp b4 j j;have Z:=a1.kp b4 E E;have V:=J.trans b4;clear M J H a1 hx8 b4;cases g;have G:fS (fun c=>w.1.size<=c/\c≠y/\c≠w.1.size) W8 [I 4,I C,I A,.string x6,I 0,.slice none 0 0] (bZ 4 (C,A) x6 0 []):=gZ _ 4 C A 0 x6;have G:=ed (y:=y) HH V Y Z z rl e9 G;have a7:∀v∈ ([I 4,I C,I A,.string x6,I 0,.slice none 0 0]:List Fr),v.oneCell'=true:=by intro v hv;simp only[FQ,FO,or_false]at hv;rcases hv with rfl|rfl|rfl|rfl|rfl|rfl<;>rfl
     have K:([I 4,I C,I A,.string x6,I 0,.slice none 0 0]:List Fr).length=6:=z;obtain⟨cs,a9⟩:=eX ([I 4,I C,I A,.string x6,I 0,.slice none 0 0]);rw[a9]at G a7 K Q;clear a9;have d6:=O Q;have HZ:=O Z;have HF:=O G;clear Q Z Y V G;go_wp2_with (first| (with_reducible refine l0 46 ?_;refine ac d5 d4 aR z (.tmp 3) z y cs z d6 K ?_)| (with_reducible refine s0 46 ?_;refine ab aR z (.tmp 2) (.tmp 117) z w.1.size cs _ z z HZ z K a7 ?_));exact aC d5 d4 aR HF.1 K z z z HF.2
    case false=>
     simp only[FN,if_false]at h5;rw[am FY]at a3;go_wp2_with fail;apply (bD h5 (gw.getD 5 aq)).mono;rintro e W6 ⟨a4,rfl,U⟩;have a2:=b6.kp a4 j j;have a6:=d2.kp a4 E E;have a0:=b7.trans a4;let ⟨m,hm⟩:=eX (cr S.T k (gw.getD 5 aq))
     rw[hm]at U a3;rw[hm];clear hm a4;clear h5 b7 b6 d2;cases m;case true=>
      have a5:ca S.T k=5:=by simpa using a3
      clear a3;have e0:=eJ S.T (i:=k) (by rw[a5];decide);have e1:cB S.T k=(C,A):=by unfold cB;rw[<-HA.o e0]
      rw[a5,e1,am (by decide)]at g;simp only[if_true]at U;clear a5;go_wp2_with fail;rcases hx7:aV S.T (k+1) with _| (j7|⟨D,j7⟩)
      .rw[hx7]at g;cases g
      .rw[hx7]at g;cases g;apply (cn U hx7).mono;rintro e W7 ⟨N,rfl⟩;exact⟨z,a0.trans N,z⟩
      rw[hx7,ay]at g;apply (cn U hx7).mono;rintro e W7 ⟨N,rfl,M⟩;have H:=a2.kp N j j;have a1:=a6.kp N E E;have J:=a0.trans N;clear U a0 a2 a6 hx7 N;have c0:=H.cell 0;have f0:=H.frozen 0;have c3:=H.cell 3;have f3:=H.frozen 3;have Q:ak ((W7.setCell (ad y 0) (I 5)).setCell (ad y 3) (.string D)) y 46 [I 5,I C,I A,.string D,I 0,.slice none 0 0]:=((H.set1 0 (I 5)).set1 3 (.string D));have Z:=((a1.other b9 0 (I 5)).other b9 3 (.string D));have Y:=(cL HH (J.R F 0 (I 5)) (cL HH J M F j 0 (I 5)) F j 3 (.string D));have V:=((J.R F 0 (I 5)).R F 3 (.string D));have X:=O (EQ Q (EQ Z (EQ Y V)));clear Q Z Y V H a1 M J;go_wp2_with fail;clear c0 f0 c3 f3;let ⟨Q,Z,Y,V⟩:=X
      clear X;generalize (W7.setCell (ad y 0) (I 5)).setCell (ad y 3) (.string D)=W8 at *;rw[am (by decide),aD (by decide)]at g;rcases hx9:bG S.T j7 with _| (j9|⟨x9,j9⟩)
      .rw[hx9]at g;cases g
      .rw[hx9]at g;cases g;apply (eG Y hx9).mono;rintro e W9 ⟨b5,rfl⟩;exact⟨z,V.trans b5,z⟩
      rw[hx9,ay]at g;apply (eG Y hx9).mono;rintro e W9 ⟨b5,rfl,h9⟩;have b8:=Q.kp b5 j j;have d0:=Z.kp b5 E E;have a8:=V.trans b5;clear Y V Q Z hx9 b5;have c4:=b8.cell 4;have f4:=b8.frozen 4;have e3:ak (W9.setCell (ad y 4) (I x9)) y 46 [I 5,I C,I A,.string D,I x9,.slice none 0 0]:=(b8.set1 4 (I x9));have e7:=(d0.other b9 4 (I x9));have e6:=(cL HH a8 h9 F j 4 (I x9));have e4:=(a8.R F 4 (I x9));have X:=O (EQ e3 (EQ e7 (EQ e6 e4)));clear e3 e7 e6 e4 b8 d0 h9 a8;go_wp2_with fail;clear c4 f4;let ⟨e3,e7,e6,e4⟩:=X
      clear X;generalize W9.setCell (ad y 4) (I x9)=f1 at *;rcases hx11:aU S.T aI j9 with _| (j2|⟨k9,j2⟩)
      .rw[hx11]at g;cases g
      .rw[hx11]at g;cases g;apply (aX e6 aI hx11).mono;rintro e i1 ⟨f8,rfl⟩;exact⟨z,e4.trans f8,z⟩
      rw[hx11,ay]at g;apply (aX e6 aI hx11).mono;rintro e i1 ⟨f8,rfl,f9⟩;have e8:=e3.kp f8 j j;have f2:=e7.kp f8 E E;have g3:=e4.trans f8;clear e6 e4 e3 e7 hx11 f8;cases g;have G:fS (fun c=>w.1.size<=c/\c≠y/\c≠w.1.size) i1 [I 5,I C,I A,.string D,I x9,.slice none 0 0] (bZ 5 (C,A) D x9 []):=gZ _ 5 C A x9 D;have G:=ed (y:=y) HH g3 f9 f2 z rl e9 G;have a7:∀v∈ ([I 5,I C,I A,.string D,I x9,.slice none 0 0]:List Fr),v.oneCell'=true:=by intro v hv;simp only[FQ,FO,or_false]at hv;rcases hv with rfl|rfl|rfl|rfl|rfl|rfl<;>rfl
      have K:([I 5,I C,I A,.string D,I x9,.slice none 0 0]:List Fr).length=6:=z;obtain⟨cs,a9⟩:=eX ([I 5,I C,I A,.string D,I x9,.slice none 0 0]);rw[a9]at G a7 K e8;clear a9;have d6:=O e8;have HZ:=O f2;have HF:=O G;clear e8 f2 f9 g3 G;go_wp2_with (first| (with_reducible refine l0 46 ?_;refine ac d5 d4 aR z (.tmp 3) z y cs z d6 K ?_)| (with_reducible refine s0 46 ?_;refine ab aR z (.tmp 2) (.tmp 117) z w.1.size cs _ z z HZ z K a7 ?_));exact aC d5 d4 aR HF.1 K z z z HF.2
     case false=>
      simp only[FN,if_false]at U;rw[am FY]at a3;go_wp2_with fail;apply (bD U (gw.getD 6 aq)).mono;rintro e W7 ⟨N,rfl,M⟩;have H:=a2.kp N j j;have a1:=a6.kp N E E;have J:=a0.trans N;let ⟨m,hm⟩:=eX (cr S.T k (gw.getD 6 aq))
      rw[hm]at M a3;rw[hm];clear hm N;clear U a0 a2 a6;cases m;case true=>
       have a5:ca S.T k=6:=by simpa using a3
       clear a3;have e0:=eJ S.T (i:=k) (by rw[a5];decide);have e1:cB S.T k=(C,A):=by unfold cB;rw[<-HA.o e0]
       rw[a5,e1,am (by decide)]at g;simp only[if_true]at M;clear a5;go_wp2_with fail;rcases hx8:aV S.T (k+1) with _| (j8|⟨x8,j8⟩)
       .rw[hx8]at g;cases g
       .rw[hx8]at g;cases g;apply (cn M hx8).mono;rintro e W8 ⟨b4,rfl⟩;exact⟨z,J.trans b4,z⟩
       rw[hx8,ay]at g;apply (cn M hx8).mono;rintro e W8 ⟨b4,rfl,Y⟩;have Q:=H.kp b4 j j;have Z:=a1.kp b4 E E;have V:=J.trans b4;clear M J H a1 hx8 b4;have c0:=Q.cell 0;have f0:=Q.frozen 0;have c3:=Q.cell 3;have f3:=Q.frozen 3;have b8:ak ((W8.setCell (ad y 0) (I 6)).setCell (ad y 3) (.string x8)) y 46 [I 6,I C,I A,.string x8,I 0,.slice none 0 0]:=((Q.set1 0 (I 6)).set1 3 (.string x8));have d0:=((Z.other b9 0 (I 6)).other b9 3 (.string x8));have h9:=(cL HH (V.R F 0 (I 6)) (cL HH V Y F j 0 (I 6)) F j 3 (.string x8));have a8:=((V.R F 0 (I 6)).R F 3 (.string x8));have X:=O (EQ b8 (EQ d0 (EQ h9 a8)));clear b8 d0 h9 a8 Q Z Y V;go_wp2_with fail;clear c0 f0 c3 f3;let ⟨b8,d0,h9,a8⟩:=X
       clear X;generalize (W8.setCell (ad y 0) (I 6)).setCell (ad y 3) (.string x8)=W9 at *;rw[am (by decide),am (by decide),aD (by decide)]at g;have k7:=b8.lt;have l3:=d0.lt;rcases hx10:rb S.T j8 with _| (j0|⟨d3,j0⟩)
       .rw[hx10]at g;cases g
       .rw[hx10]at g;cases g;apply (lZ g7 h9 (hO.kp a8 g7) (i9.kp a8 rl) hx10).mono;rintro e f1 ⟨f7,rfl⟩;exact⟨z,a8.trans f7,z⟩
       rw[hx10,ay]at g;apply (lZ g7 h9 (hO.kp a8 g7) (i9.kp a8 rl) hx10).mono;rintro e f1 ⟨f7,⟨a,cap,rfl,j1,hZ⟩,e6⟩;have e3:=b8.kp f7 j j;have e7:=d0.kp f7 E E;have e4:=a8.trans f7;clear h9 a8 b8 d0 hx10 f7;have i4:aE (fun c=>w.1.size<=c/\c≠y/\c≠w.1.size) f1 a 0 d3:=aE.CQ (fun c hc=>by have l2:W9.1.size<=c:=hc;exact⟨by omega,by omega,by omega⟩) hZ;have k0:aE (fun c=>w.1.size<=c/\c≠y/\c≠w.1.size) (f1.setCell (ad y 5) (.slice a d3.length cap)) a 0 d3:=aE.keep (fun c o v hc hv=>by rw[<-hv];exact World.cell?_setCell_far f1 (ad y 5) (ad c o) _ (Gp hc.2.1)) i4;clear hZ i4;have c5:=e3.cell 5;have f5:=e3.frozen 5
       have e8:ak (f1.setCell (ad y 5) (.slice a d3.length cap)) y 46 [I 6,I C,I A,.string x8,I 0,.slice a d3.length cap]:=e3.set1 5 (.slice a d3.length cap);have f2:=e7.other b9 5 (.slice a d3.length cap);have f9:=cL HH e4 e6 F j 5 (.slice a d3.length cap);have g3:=e4.R F 5 (.slice a d3.length cap);clear e3 e7 e6 e4;cases g;have G:fS (fun c=>w.1.size<=c/\c≠y/\c≠w.1.size) (f1.setCell (ad y 5) (.slice a d3.length cap)) [I 6,I C,I A,.string x8,I 0,.slice a d3.length cap] (bZ 6 (C,A) x8 0 d3):=⟨a,cap,z,j1,k0⟩;have G:=ed (y:=y) HH g3 f9 f2 z rl e9 G;have a7:∀v∈ ([I 6,I C,I A,.string x8,I 0,.slice a d3.length cap]:List Fr),v.oneCell'=true:=by intro v hv;simp only[FQ,FO,or_false]at hv;rcases hv with rfl|rfl|rfl|rfl|rfl|rfl<;>rfl
       have K:([I 6,I C,I A,.string x8,I 0,.slice a d3.length cap]:List Fr).length=6:=z;obtain⟨cs,a9⟩:=eX ([I 6,I C,I A,.string x8,I 0,.slice a d3.length cap]);rw[a9]at G a7 K e8;clear a9;have d6:=O e8;have HZ:=O f2;have HF:=O G;clear e8 f2 f9 g3 G;go_wp2_with (first| (with_reducible refine l0 46 ?_;refine ac d5 d4 aR z (.tmp 3) z y cs z d6 K ?_)| (with_reducible refine s0 46 ?_;refine ab aR z (.tmp 2) (.tmp 112) z w.1.size cs _ z z HZ z K a7 ?_));exact aC d5 d4 aR HF.1 K z z z HF.2
      case false=> simp only[FN,if_false]at M;rw[am FY]at a3;go_wp2_with fail;rw[aD a3]at g;cases g;apply (gI M).mono;rintro e k6 ⟨rfl,hb⟩;exact⟨z,J.trans (bi hb),z⟩
theorem bj.map{w A:Type}{R:PR w}{x:w}(g:w->A)(h:bj false n0 R x j z0):bj false k (ap R fun x j=>some (.ok (g x,j))) (g x) j z0:=by
 rcases h with ⟨h,-⟩|⟨-,rfl,rfl⟩|⟨-,rfl,rfl⟩
 .cases h
 .exact .inr (.inl ⟨z,z,z⟩)
 .exact .inr (.inr ⟨z,z,z⟩)
theorem bj.EP{g:Type}{R A:PR g}{x:g}(h:bj true k R x j z0):bj true k A x j z0:=by
 rcases h with ⟨-,C,w⟩|⟨h,-⟩|⟨h,-⟩
 .exact .inl ⟨z,C,w⟩
 .cases h
 .cases h
theorem bj.EE{w:Type}{R:PR w}{x:w}(h:bj false k R x j z0):bj false g R x j z0:=by
 rcases h with ⟨h,-⟩|h|h
 .cases h
 .exact .inr (.inl h)
 .exact .inr (.inr h)
def DX(w:Fk)(b:Nat)(S:bp)(bad:Bool)(k:Nat)(R:PR Ex)(e:GP)(w':Fk):Prop:=Kp w w' b b/\∃ (cs:List Fr) (x:Ex) (j:Nat) (bad':Bool),e= .returned (.agg cs.toArray)/\ExL (w.1.size<=·) w' cs x/\bj bad k R x j bad'/\Dr w' b S j bad'
def DU(b:Nat)(S:bp)(f:Nat)(bad:Bool):Prop:=∀ (w:Fk) (k:Nat),Dr w b S k bad->(bad=false->pU S.T f k≠none)->Jq prog 183 #[.pointer (some ⟨b,0,none⟩)] w (DX w b S bad k (pU S.T f k))
def DP(b:Nat)(S:bp)(f:Nat)(bad:Bool):Prop:=∀ (w:Fk) (k:Nat),Dr w b S k bad->(bad=false->pP S.T f k≠none)->Jq prog 191 #[.pointer (some ⟨b,0,none⟩)] w (DX w b S bad k (pP S.T f k))
def DE(b:Nat)(S:bp)(f:Nat)(bad:Bool):Prop:=∀ (w:Fk) (n k:Nat),1<=n->n<=6->Dr w b S k bad->(bad=false->pE S.T f n k≠none)->Jq prog 166 #[.pointer (some ⟨b,0,none⟩),.int .i64 (n:Int)] w (DX w b S bad k (pE S.T f n k))
theorem gf:∃d,prog.underlying 58=some d/\d.isRow=true:=by
 have h:(prog.underlying 58).map (·.isRow)=some true:=by kernel_rfl
 let ⟨d,g,j⟩:=Ga.1 h
 exact⟨d,g,j⟩
def rJ:List Fr:=[.int .i64 0,.int .i64 0,.string ⟨#[]⟩,.int .i64 0,.bool false,.int .i64 0,.slice none 0 0]
theorem fX{z:Nat}{bad:Bool}{R:PR Ex}{x:Ex}{cs:List Fr}(D:Dr w b S k bad)(J:Kp w W b b)(h:Dr W b S j z0)(G:ak W z 58 rJ)(E:w.1.size<=z)(M:b<w.1.size)
  (A:ExL (fun c=>w.1.size<=c/\c≠z) W cs x)(K:bj bad k R x j z0):ak (W.setCells z 0 cs) z 58 cs/\DX w b S bad k R (.returned (.agg cs.toArray)) (W.setCells z 0 cs):=by
 have F:=A.cells.1;have C:=Kp.Dn E cs 0 J;refine⟨G.DK (by rw[F];rfl),C,cs,x,j,z0,rfl,?_,K,D.fin h C (au (by omega) cs 0 W)⟩;refine ExL.CQ (fun c g=>g.1) (ExL.keep (fun c o v g H=>?_) A);rw[<-H];simp[FI,au (w:=W) (vs:=cs) (o:=0) g.2]
theorem kO{f:Nat}{bad:Bool}(hU:∀A,f=A+1->DU b S A false)(hP:DP b S (f-1) bad):DU b S f bad:=by
 intro w k h Q;let ⟨d6,d1,d4⟩:=gf
 have d5:=h.lt;have HH:=O h;have h0:=h.alloc (.cells #[I 0,I 0,.string ⟨#[]⟩,I 0,.bool false,I 0,.slice none 0 0] 58);have b7:ak (w.alloc (.cells #[I 0,I 0,.string ⟨#[]⟩,I 0,.bool false,I 0,.slice none 0 0] 58)) w.1.size 58 rJ:=Df _ _;have b9:Kp w (w.alloc (.cells #[I 0,I 0,.string ⟨#[]⟩,I 0,.bool false,I 0,.slice none 0 0] 58)) b b:=(Kp.refl w b b).alloc _;have E:w.1.size≠b:=by omega
 go_in;go_wp2_with fail;generalize w.alloc (.cells #[I 0,I 0,.string ⟨#[]⟩,I 0,.bool false,I 0,.slice none 0 0] 58)=W0 at *;apply (dq h0 eg).mono;rintro e W1 ⟨b5,rfl,h1⟩;have a5:=b9.trans b5;have a3:=b7.kp b5 E E;let ⟨m,F⟩:=eX ((!bad&&cr S.T k eg))
 rw[F]at h1;rw[F];cases m
 .simp only[FN,if_false]at h1;go_wp2_with fail;apply (dq h1 sw).mono;rintro e W2 ⟨a8,rfl,Z⟩;have a2:=a5.trans a8;have a0:=a3.kp a8 E E;let ⟨m2,N⟩:=eX ((!bad&&cr S.T k sw))
  rw[N]at Z;rw[N];cases m2
  .simp only[FN,if_false]at Z;have M:bad=false->∃A,f=A+1/\pU S.T f k=pP S.T A k:=fun hb=>by
    subst hb;simp only[Hm,Gx]at F N;cases f with
    |zero=>exact absurd (hO S.T k) (Q rfl)
    |succ A=> refine⟨A,rfl,?_⟩;rw[pU,F,N];simp
   have c8:∀x j K,bj bad k (pP S.T (f-1) k) x j K->bj bad k (pU S.T f k) x j K:=fun x j K ho=>by
    cases bad
    .obtain⟨A,rfl,C⟩:=M rfl;rw[C];simpa using ho
    .exact ho.EP
   have Y:bad=false->pP S.T (f-1) k≠none:=fun hb=>by obtain⟨A,rfl,C⟩:=M hb;have:=Q hb;rw[C]at this;simpa using this
   have X:=hP W2 k Z Y;have c9:=O c8;clear F N M c8 Y Q hP hU;go_wp2_with fail;apply X.mono;rintro e J ⟨D,cs,x,j,K,rfl,G,H,C⟩;have U:=a0.kp D E E;have a7:=a0.lt;have hl:=G.cells.1;have d0:=G.cells.2;have b8:ExL (fun c=>w.1.size<=c/\c≠w.1.size) J cs x:=ExL.CQ (fun c hc=>by have d7:W2.1.size<=c:=hc;exact⟨by omega,by omega⟩) G;have HF:=O (fX HH (a2.trans D) C U rl d5 b8 (c9 x j K H));have HZ:=O U;clear X G b8 U a0 D a2 Z C H;go_wp2_with (with_reducible refine s0 58 ?_;refine ab bC rfl (.tmp 2) (.tmp 16) rfl w.1.size cs _ rfl rfl HZ rfl hl d0 ?_);exact aC d1 d4 bC HF.1 hl rfl rfl rfl HF.2
  .have a9:bad=false:=by
    cases bad
    .rfl
    .cases N
   subst a9;simp only[if_true]at Z;cases f with
   |zero=>exact absurd (hO S.T k) (Q rfl)
   |succ A=>
    simp only[Hm,Gx]at F N;have HR:pU S.T (A+1) k=ap (pU S.T A (k+1)) fun x j=>some (.ok (ji x,j)):=by rw[pU];rw[F,N];simp
    have Y:false=false->pU S.T A (k+1)≠none:=fun _ e=>Q rfl (by rw[HR,e];rfl);have X:=hU A rfl W2 (k+1) Z Y;go_wp2_with fail;apply X.mono;rintro e J ⟨D,cs,x,j,K,rfl,G,H,C⟩;have U:=a0.kp D E E;have a7:=a0.lt;have b4:=D.size;have b6:=a2.size;have hl:=G.cells.1;have d3:=bE #[I 0,I 0,.string ⟨#[]⟩,I 0,.bool false,I 0,.slice none 0 0] cs (by rw[hl];rfl);have W:=jU (w:=w) G (z:=w.1.size) a7 b4 b6 5 0 ⟨#[]⟩;have a1:Xc J w.1.size (I 0) (I 0) (.string ⟨#[]⟩) (I 0) (.bool false) (I 0) (.slice none 0 0):=U;have g:=a1.alloc (.cells cs.toArray 58);have V:=(a2.trans D).alloc (.cells cs.toArray 58);have R:(J.alloc (.cells cs.toArray 58)).1[b]? =J.1[b]? :=(Gz J _ none).block b C.lt (by simp)
    have a4:bj false k (pU S.T (A+1) k) (ji x) j K:=by rw[HR];exact H.map ji
    have HE:=O (EQ g (EQ W (EQ V (EQ C (EQ R a4)))));have d2:=g.c0;have t1:=g.c1;have t2:=g.c2;have t3:=g.c3;have t4:=g.c4;have t5:=g.c5;have t6:=g.c6;have f0:=g.frozen 0;have f1:=g.frozen 1;have f2:=g.frozen 2;have f3:=g.frozen 3;have f4:=g.frozen 4;have f5:=g.frozen 5;have f6:=g.frozen 6;go_wp2;let ⟨g,W,V,C,R,H⟩:=HE
    have a6:=cP V (z:=w.1.size) rl;refine eb (g.set _ _ _ _ _ _ _) rfl rfl rfl ⟨a6 _ _ _ _ _ _ _,_,_,j,K,rfl,W _ _ _ _ _ _ _,H,?_⟩;exact HH.fin C (a6 _ _ _ _ _ _ _) ((bb (Gp E) _ _ _ _ _ _ _).trans R)
 .have a9:bad=false:=by
   cases bad
   .rfl
   .cases F
  subst a9;simp only[if_true]at h1;cases f with
  |zero=>exact absurd (hO S.T k) (Q rfl)
  |succ A=>
   simp only[Hm,Gx]at F;have HR:pU S.T (A+1) k=ap (pU S.T A (k+1)) fun x j=>some (.ok (jm x,j)):=by rw[pU];rw[F];simp
   have Y:false=false->pU S.T A (k+1)≠none:=fun _ e=>Q rfl (by rw[HR,e];rfl);have X:=hU A rfl W1 (k+1) h1 Y;go_wp2_with fail;apply X.mono;rintro e J ⟨D,cs,x,j,K,rfl,G,H,C⟩;have U:=a3.kp D E E;have a7:=a3.lt;have b4:=D.size;have b6:=a5.size;have hl:=G.cells.1;have d3:=bE #[I 0,I 0,.string ⟨#[]⟩,I 0,.bool false,I 0,.slice none 0 0] cs (by rw[hl];rfl);have W:=jU (w:=w) G (z:=w.1.size) a7 b4 b6 4 0 ⟨#[]⟩;have a1:Xc J w.1.size (I 0) (I 0) (.string ⟨#[]⟩) (I 0) (.bool false) (I 0) (.slice none 0 0):=U;have g:=a1.alloc (.cells cs.toArray 58);have V:=(a5.trans D).alloc (.cells cs.toArray 58);have R:(J.alloc (.cells cs.toArray 58)).1[b]? =J.1[b]? :=(Gz J _ none).block b C.lt (by simp)
   have a4:bj false k (pU S.T (A+1) k) (jm x) j K:=by rw[HR];exact H.map jm
   have HE:=O (EQ g (EQ W (EQ V (EQ C (EQ R a4)))));have d2:=g.c0;have t1:=g.c1;have t2:=g.c2;have t3:=g.c3;have t4:=g.c4;have t5:=g.c5;have t6:=g.c6;have f0:=g.frozen 0;have f1:=g.frozen 1;have f2:=g.frozen 2;have f3:=g.frozen 3;have f4:=g.frozen 4;have f5:=g.frozen 5;have f6:=g.frozen 6;go_wp2;let ⟨g,W,V,C,R,H⟩:=HE
   have a6:=cP V (z:=w.1.size) rl;refine eb (g.set _ _ _ _ _ _ _) rfl rfl rfl ⟨a6 _ _ _ _ _ _ _,_,_,j,K,rfl,W _ _ _ _ _ _ _,H,?_⟩;exact HH.fin C (a6 _ _ _ _ _ _ _) ((bb (Gp E) _ _ _ _ _ _ _).trans R)
theorem bj.ret{g w:Type}{bad:Bool}{R:PR g}{u:g}(y:w)(h:bj bad k R u j z0):bj bad k (ap R fun _ j=>some (.ok (y,j))) y j z0:=h.bind (bj.pure _ _ _)
theorem mW{y:Nat}{bad:Bool}(A:Dr w b S k bad)(D:Kp w W b b)(h:Dr W b S j z0)(g:w.1.size<=y)(C:y≠b)(o:Nat)(u:Fr):Dr (W.setCell (ad y o) u) b S j z0:=
 A.fin h (D.R g o u) (FK W (ad y o) u b (Gp C))
theorem hH{f:Nat}{bad:Bool}(hE:∀A,f=A+1->DE b S A false):DP b S f bad:=by
 intro w k h f9;let ⟨m0,c9,c8⟩:=gf
 have i1:=h.lt;have HH:=O h;have h0:=h.alloc (.cells #[I 0,I 0,.string ⟨#[]⟩,I 0,.bool false,I 0,.slice none 0 0] 58);have k1:ak (w.alloc (.cells #[I 0,I 0,.string ⟨#[]⟩,I 0,.bool false,I 0,.slice none 0 0] 58)) w.1.size 58 rJ:=Df _ _;have k7:Kp w (w.alloc (.cells #[I 0,I 0,.string ⟨#[]⟩,I 0,.bool false,I 0,.slice none 0 0] 58)) b b:=(Kp.refl w b b).alloc _;have C:w.1.size≠b:=by omega
 go_in;go_wp2_with fail;generalize w.alloc (.cells #[I 0,I 0,.string ⟨#[]⟩,I 0,.bool false,I 0,.slice none 0 0] 58)=W0 at *;apply (dq h0 no).mono;rintro e W1 ⟨j7,rfl,Z⟩;have e9:=k7.trans j7;have d8:=k1.kp j7 C C;let ⟨m,hm⟩:=eX ((!bad&&cr S.T k no))
 rw[hm]at Z;rw[hm];cases m
 .simp only[FN,if_false]at Z;have f7:bad=false->∃A,f=A+1/\pP S.T f k=(if ba S.T k=2 then some (.ok (lW (S.T.getD k default).num,k+1)) else ap (aV S.T k) fun s j=>if cr S.T j ho=true then ap (pE S.T A 1 (j+1)) fun x k=>ap (aU S.T gx k) fun _ m=>some (.ok (ds s x,m)) else some (.ok (eZ s,j))):=fun hb=>by
   subst hb;simp only[Hm,Gx]at hm;cases f with
   |zero=>exact absurd (mJ S.T k) (f9 rfl)
   |succ A=> refine⟨A,rfl,?_⟩;rw[pP,am (by rw[hm];exact FY)]
  have i6:=O f9;have i7:=O hE;have c0:=Z.c0;have c1:=Z.c1;have m3:=Z.mx;have l9:=Z.le;by_cases K:ba S.T k=2
  .have hk:=cR S.T (i:=k) (by rw[K];decide);have j9:(k:Int)< (S.T.length:Int):=by omega
   have l4:(0:Int)<=(k:Int):=by omega
   obtain⟨gb,l7,i5,x0,-,-,-,-⟩:=Z.Ec k hk;have e6:(S.T.getD k default).kind=2:=by unfold ba at K;rw[aD hk]at K;exact K
   rw[i5]at c0;rw[e6]at x0;have HK:=O (EQ K e6);have HD:=O (fun n=>EQ (Z.drewN n) (EQ (d8.drewN n) (e9.drewN n)));go_wp2;go_quiet (fail);let ⟨h2,a4,d6⟩:=HD nq
   generalize W1.drewN nq=f8 at *;go_wp2_with fail;apply (gG h2).mono;rintro e J ⟨a5,x,j,U,rfl,F,h3⟩;have g:Xc J w.1.size (I 0) (I 0) (.string ⟨#[]⟩) (I 0) (.bool false) (I 0) (.slice none 0 0):=a4.kp a5 C C;have a2:=d6.trans a5;have d7:bj bad k (pP S.T f k) (lW x) j U:=by
    cases bad
    .obtain⟨A,rfl,N⟩:=f7 rfl;rw[N,aD HK.o.1];have hn:bG S.T k=some (.ok ((S.T.getD k default).num,k+1)):=by unfold bG;rw[aD HK.o.1]
     rw[hn]at F;rcases F with ⟨h,-⟩|⟨-,rfl,h⟩|⟨-,rfl,h⟩
     .cases h
     .cases h;exact .inr (.inl ⟨rfl,rfl,rfl⟩)
     .cases h
    .rcases F with ⟨-,q1,q2⟩|⟨h,-⟩|⟨h,-⟩
     .exact .inl ⟨rfl,q1,q2⟩
     .cases h
     .cases h
   have E:=O (EQ g (EQ a2 (EQ h3 d7)));have m1:=g.c0;have t1:=g.c1;have t2:=g.c2;have t3:=g.c3;have t4:=g.c4;have t5:=g.c5;have t6:=g.c6;have f0:=g.frozen 0;have f1:=g.frozen 1;have f2:=g.frozen 2;have f3:=g.frozen 3;have f4:=g.frozen 4;have f5:=g.frozen 5;have f6:=g.frozen 6;go_wp2;let ⟨M,a7,h5,F⟩:=E
   have k6:=cP a7 (z:=w.1.size) rl;refine eb (M.set _ _ _ _ _ _ _) rfl rfl rfl ⟨k6 _ _ _ _ _ _ _,_,_,j,U,rfl,hD _ 1 x ⟨#[]⟩,F,?_⟩;exact HH.fin h5 (k6 _ _ _ _ _ _ _) (bb (Gp C) _ _ _ _ _ _ _)
  .have HD:=O (fun n=>EQ (Z.drewN n) (EQ (d8.drewN n) (e9.drewN n)));have i4:∃f8:Fk,(Dr f8 b S k bad/\ak f8 w.1.size 58 rJ/\Kp w f8 b b)->True:=⟨W1,fun _=>trivial⟩;by_cases hk:k<S.T.length
   .have j9:(k:Int)< (S.T.length:Int):=by omega
    have l4:(0:Int)<=(k:Int):=by omega
    obtain⟨gb,l7,i5,x0,-,-,-,-⟩:=Z.Ec k hk;let ⟨kd,e6⟩:=eX ((S.T.getD k default).kind)
    have l8:(kd==2)=false:=by unfold ba at K;rw[aD hk,e6]at K;simpa using K
    rw[i5]at c0;rw[e6]at x0;have HK:=O K;go_wp2;go_quiet (fail);let ⟨h2,a4,d6⟩:=HD nq
    generalize W1.drewN nq=f8 at *;go_wp2_with fail;apply (bF h2).mono;rintro e J ⟨a5,x,j,U,rfl,F,h3⟩;have g:=a4.kp a5 C C;have a2:=d6.trans a5;have i9:=a5.size;have k0:=a4.lt;have R:ak (J.alloc (.cells #[I 2,I 0,.string x,I 0,.bool false,I 0,.slice none 0 0] 58)) J.1.size 58 [I 2,I 0,.string x,I 0,.bool false,I 0,.slice none 0 0]:=Df _ _;have M:=g.alloc (.cells #[I 2,I 0,.string x,I 0,.bool false,I 0,.slice none 0 0] 58);have a7:=a2.alloc (.cells #[I 2,I 0,.string x,I 0,.bool false,I 0,.slice none 0 0] 58);have h5:=h3.alloc (.cells #[I 2,I 0,.string x,I 0,.bool false,I 0,.slice none 0 0] 58)
    have d1:(J.alloc (.cells #[I 2,I 0,.string x,I 0,.bool false,I 0,.slice none 0 0] 58)).1.size=J.1.size+1:=by simp
    have E:=O (EQ R (EQ M (EQ a7 (EQ h5 d1))));go_wp2_with fail;let ⟨R,M,a7,h5,d1⟩:=E
    let ⟨y,hy⟩:=eX (J.1.size)
    rw[hy]at R i9 d1 ⊢;generalize J.alloc (.cells #[I 2,I 0,.string x,I 0,.bool false,I 0,.slice none 0 0] 58)=W4 at *;have G:y≠b:=by omega
    have g2:y≠w.1.size:=by omega
    have d5:w.1.size<=y:=by omega
    apply (dq h5 ho).mono;rintro e W5 ⟨b6,rfl,h4⟩;have b4:=M.kp b6 C C;have h1:=R.kp b6 G G;have b5:=a7.trans b6;have l3:=b6.size;let ⟨m2,H⟩:=eX ((!U&&cr S.T j ho))
    rw[H]at h4;rw[H];cases m2
    .simp only[FN,if_false]at h4;have g8:bj bad k (pP S.T f k) (eZ x) j U:=by
      cases bad
      .obtain⟨A,rfl,N⟩:=f7 rfl;rw[N,am HK.o];apply F.bind (R2:=fun s j=>if cr S.T j ho=true then ap (pE S.T A 1 (j+1)) fun x k=>ap (aU S.T gx k) fun _ m=>some (.ok (ds s x,m)) else some (.ok (eZ s,j)));cases U
       .simp only[Hm,Gx]at H;rw[am (by rw[H];exact FY)];exact bj.pure _ _ _
       .exact .inl ⟨rfl,rfl,rfl⟩
      .rcases F with ⟨-,q1,q2⟩|⟨h,-⟩|⟨h,-⟩
       .exact .inl ⟨rfl,q1,q2⟩
       .cases h
       .cases h
     have d4:ExL (fun c=>w.1.size<=c/\c≠w.1.size) W5 [I 2,I 0,.string x,I 0,.bool false,I 0,.slice none 0 0] (eZ x):=hD _ 2 0 x;have hF:=fX HH b5 h4 b4 rl i1 d4 g8;have D:=d4.cells.1;have Y:=d4.cells.2;obtain⟨cs,g7⟩:=eX ([I 2,I 0,.string x,I 0,.bool false,I 0,.slice none 0 0]);rw[g7]at hF D Y h1;have V:=O hF;have HZ:=O b4;have d0:=O h1;go_wp2_with (first| (with_reducible refine l0 58 ?_;refine ac c9 c8 bC rfl (.tmp 4) rfl y cs rfl d0 D ?_)| (with_reducible refine s0 58 ?_;refine ab bC rfl (.tmp 2) (.tmp 51) rfl w.1.size cs _ rfl rfl HZ rfl D Y ?_));exact aC c9 c8 bC V.1 D rfl rfl rfl V.2
    .have j0:U=false:=by
      cases U
      .rfl
      .cases H
     subst j0;simp only[Hm,Gx]at H;simp only[if_true]at h4;have e3:bad=false/\aV S.T k=some (.ok (x,j)):=by
      rcases F with ⟨-,h,-⟩|⟨q1,-,q2⟩|⟨-,h,-⟩
      .cases h
      .exact⟨q1,q2⟩
      .cases h
     let ⟨e3,g4⟩:=e3
     subst e3;obtain⟨A,rfl,N⟩:=f7 rfl;rw[am HK.o,g4,ay,aD H]at N;have e1:false=false->pE S.T A 1 (j+1)≠none:=fun _ e=>i6 rfl (by rw[N,e];rfl);have X:=h1.set1 0 (I 3);have a9:=b4.other (Gp g2) 0 (I 3);have h6:=mW HH b5 h4 d5 G 0 (I 3);have b8:=b5.R d5 0 (I 3);have y0:=h1.cell 0;have yf:=h1.frozen 0;have d9:=i7 A rfl _ 1 (j+1) (by decide) (by decide) h6 e1;have HR:=O N;have e2:(W5.setCell (ad y 0) (I 3)).1.size=W5.1.size:=by simp[Gc]
     have E:=O (EQ X (EQ a9 (EQ b8 e2)));clear X a9 h6 b8 h1 b4 h4 b5 N g4 e1 H F f7 i6 i7 e2;go_wp2_with fail;let ⟨X,a9,b8,e2⟩:=E
     clear E y0 yf;change ak _ y 58 [I 3,I 0,.string x,I 0,.bool false,I 0,.slice none 0 0]at X;generalize W5.setCell (ad y 0) (I 3)=W6 at *;apply d9.mono;rintro e Q ⟨b9,cs,xe,j2,j4,rfl,hX,e0,h7⟩;have i3:=b9.size;have j1:=hX.cells.1;have i4:=bE #[I 0,I 0,.string ⟨#[]⟩,I 0,.bool false,I 0,.slice none 0 0] cs (by rw[j1];rfl);have hA:=kH hX i3 3 0 x;have g9:=(a9.kp b9 C C).alloc (.cells cs.toArray 58);have d3:=(X.kp b9 G G).alloc (.cells cs.toArray 58);have e8:=(b8.trans b9).alloc (.cells cs.toArray 58);have h8:=h7.alloc (.cells cs.toArray 58);have j8:=X.lt;have l2:=a9.lt;have a8:=mH hA j8 6 (.slice (some (ad Q.1.size 0)) 1 1);have a3:=g9.other (Gp g2) 6 (.slice (some (ad Q.1.size 0)) 1 1)
     have W:=d3.set1 6 (.slice (some (ad Q.1.size 0)) 1 1);have h9:=mW HH e8 h8 d5 G 6 (.slice (some (ad Q.1.size 0)) 1 1);have a6:=e8.R d5 6 (.slice (some (ad Q.1.size 0)) 1 1);have y6:=d3.cell 6;have yf:=d3.frozen 6;have E:=O (EQ a8 (EQ a3 (EQ W (EQ h9 a6))));clear a8 a3 W h9 a6 hA g9 d3 e8 h8 a9 X b8 b9 h7 hX d9;go_wp2_with fail;let ⟨a8,a3,W,h9,a6⟩:=E
     clear E y6 yf i4;let ⟨q7,j5⟩:=eX (Q.1.size)
     rw[j5]at a8 a3 W h9 a6 i3 ⊢;change ak _ y 58 [I 3,I 0,.string x,I 0,.bool false,I 0,.slice (some (ad q7 0)) 1 1]at W;generalize (Q.alloc (.cells cs.toArray 58)).setCell (ad y 6) (.slice (some (ad q7 0)) 1 1)=W9 at *;apply (aQ h9 gx).mono;rintro e j6 ⟨b7,rfl,j3,i8,d7,g1⟩;have e5:=a3.kp b7 C C;have e7:=W.kp b7 G G;have d2:ExL (fun c=>w.1.size<=c/\c≠w.1.size) j6 [I 3,I 0,.string x,I 0,.bool false,I 0,.slice (some (ad q7 0)) 1 1] (ds x xe):=ExL.CQ (fun c hc=>by have g6:W6.1.size<=c:=hc;exact⟨by omega,by omega⟩) (ExL.keep (fun c o v hc hv=>by have g6:W6.1.size<=c:=hc;rw[<-hv];simp only[FI];rw[b7.block c (FF W9 _ hv) (by omega) (by omega)]) a8)
     have i2:bj false k (pP S.T (A+1) k) (ds x xe) j3 i8:=by rw[HR.o];exact(e0.bind (R2:=fun xe j=>ap (aU S.T gx j) fun _ m=>some (.ok (ds x xe,m))) (d7.ret (ds x xe))).EE
     have hF:=fX HH (a6.trans b7) g1 e5 rl i1 d2 i2;have D:=d2.cells.1;have Y:=d2.cells.2;obtain⟨cz,i0⟩:=eX ([I 3,I 0,.string x,I 0,.bool false,I 0,.slice (some ⟨q7,0,none⟩) 1 1]);rw[i0]at hF D Y e7;have V:=O hF;have HZ:=O e5;have d0:=O e7;clear i0 d2 hF e5 e7 a6 g1 i2 e0 d7 b7 a8 a3 W h9;go_wp2_with (first| (with_reducible refine l0 58 ?_;refine ac c9 c8 bC rfl (.tmp 4) rfl y cz rfl d0 D ?_)| (with_reducible refine s0 58 ?_;refine ab bC rfl (.tmp 2) (.tmp 51) rfl w.1.size cz _ rfl rfl HZ rfl D Y ?_));exact aC c9 c8 bC V.1 D rfl rfl rfl V.2
   .have j9:¬ (k:Int)< (S.T.length:Int):=by omega
    have HK:=O K;go_wp2;go_quiet (fail);let ⟨h2,a4,d6⟩:=HD nq
    generalize W1.drewN nq=f8 at *;go_wp2_with fail;apply (bF h2).mono;rintro e J ⟨a5,x,j,U,rfl,F,h3⟩;have g:=a4.kp a5 C C;have a2:=d6.trans a5;have i9:=a5.size;have k0:=a4.lt;have R:ak (J.alloc (.cells #[I 2,I 0,.string x,I 0,.bool false,I 0,.slice none 0 0] 58)) J.1.size 58 [I 2,I 0,.string x,I 0,.bool false,I 0,.slice none 0 0]:=Df _ _;have M:=g.alloc (.cells #[I 2,I 0,.string x,I 0,.bool false,I 0,.slice none 0 0] 58);have a7:=a2.alloc (.cells #[I 2,I 0,.string x,I 0,.bool false,I 0,.slice none 0 0] 58);have h5:=h3.alloc (.cells #[I 2,I 0,.string x,I 0,.bool false,I 0,.slice none 0 0] 58)
    have d1:(J.alloc (.cells #[I 2,I 0,.string x,I 0,.bool false,I 0,.slice none 0 0] 58)).1.size=J.1.size+1:=by simp
    have E:=O (EQ R (EQ M (EQ a7 (EQ h5 d1))));go_wp2_with fail;let ⟨R,M,a7,h5,d1⟩:=E
    let ⟨y,hy⟩:=eX (J.1.size)
    rw[hy]at R i9 d1 ⊢;generalize J.alloc (.cells #[I 2,I 0,.string x,I 0,.bool false,I 0,.slice none 0 0] 58)=W4 at *;have G:y≠b:=by omega
    have g2:y≠w.1.size:=by omega
    have d5:w.1.size<=y:=by omega
    apply (dq h5 ho).mono;rintro e W5 ⟨b6,rfl,h4⟩;have b4:=M.kp b6 C C;have h1:=R.kp b6 G G;have b5:=a7.trans b6;have l3:=b6.size;let ⟨m2,H⟩:=eX ((!U&&cr S.T j ho))
    rw[H]at h4;rw[H];cases m2
    .simp only[FN,if_false]at h4;have g8:bj bad k (pP S.T f k) (eZ x) j U:=by
      cases bad
      .obtain⟨A,rfl,N⟩:=f7 rfl;rw[N,am HK.o];apply F.bind (R2:=fun s j=>if cr S.T j ho=true then ap (pE S.T A 1 (j+1)) fun x k=>ap (aU S.T gx k) fun _ m=>some (.ok (ds s x,m)) else some (.ok (eZ s,j)));cases U
       .simp only[Hm,Gx]at H;rw[am (by rw[H];exact FY)];exact bj.pure _ _ _
       .exact .inl ⟨rfl,rfl,rfl⟩
      .rcases F with ⟨-,q1,q2⟩|⟨h,-⟩|⟨h,-⟩
       .exact .inl ⟨rfl,q1,q2⟩
       .cases h
       .cases h
     have d4:ExL (fun c=>w.1.size<=c/\c≠w.1.size) W5 [I 2,I 0,.string x,I 0,.bool false,I 0,.slice none 0 0] (eZ x):=hD _ 2 0 x;have hF:=fX HH b5 h4 b4 rl i1 d4 g8;have D:=d4.cells.1;have Y:=d4.cells.2;obtain⟨cs,g7⟩:=eX ([I 2,I 0,.string x,I 0,.bool false,I 0,.slice none 0 0]);rw[g7]at hF D Y h1;have V:=O hF;have HZ:=O b4;have d0:=O h1;go_wp2_with (first| (with_reducible refine l0 58 ?_;refine ac c9 c8 bC rfl (.tmp 4) rfl y cs rfl d0 D ?_)| (with_reducible refine s0 58 ?_;refine ab bC rfl (.tmp 2) (.tmp 51) rfl w.1.size cs _ rfl rfl HZ rfl D Y ?_));exact aC c9 c8 bC V.1 D rfl rfl rfl V.2
    .have j0:U=false:=by
      cases U
      .rfl
      .cases H
     subst j0;simp only[Hm,Gx]at H;simp only[if_true]at h4;have e3:bad=false/\aV S.T k=some (.ok (x,j)):=by
      rcases F with ⟨-,h,-⟩|⟨q1,-,q2⟩|⟨-,h,-⟩
      .cases h
      .exact⟨q1,q2⟩
      .cases h
     let ⟨e3,g4⟩:=e3
     subst e3;obtain⟨A,rfl,N⟩:=f7 rfl;rw[am HK.o,g4,ay,aD H]at N;have e1:false=false->pE S.T A 1 (j+1)≠none:=fun _ e=>i6 rfl (by rw[N,e];rfl);have X:=h1.set1 0 (I 3);have a9:=b4.other (Gp g2) 0 (I 3);have h6:=mW HH b5 h4 d5 G 0 (I 3);have b8:=b5.R d5 0 (I 3);have y0:=h1.cell 0;have yf:=h1.frozen 0;have d9:=i7 A rfl _ 1 (j+1) (by decide) (by decide) h6 e1;have HR:=O N;have e2:(W5.setCell (ad y 0) (I 3)).1.size=W5.1.size:=by simp[Gc]
     have E:=O (EQ X (EQ a9 (EQ b8 e2)));clear X a9 h6 b8 h1 b4 h4 b5 N g4 e1 H F f7 i6 i7 e2;go_wp2_with fail;let ⟨X,a9,b8,e2⟩:=E
     clear E y0 yf;change ak _ y 58 [I 3,I 0,.string x,I 0,.bool false,I 0,.slice none 0 0]at X;generalize W5.setCell (ad y 0) (I 3)=W6 at *;apply d9.mono;rintro e Q ⟨b9,cs,xe,j2,j4,rfl,hX,e0,h7⟩;have i3:=b9.size;have j1:=hX.cells.1;have i4:=bE #[I 0,I 0,.string ⟨#[]⟩,I 0,.bool false,I 0,.slice none 0 0] cs (by rw[j1];rfl);have hA:=kH hX i3 3 0 x;have g9:=(a9.kp b9 C C).alloc (.cells cs.toArray 58);have d3:=(X.kp b9 G G).alloc (.cells cs.toArray 58);have e8:=(b8.trans b9).alloc (.cells cs.toArray 58);have h8:=h7.alloc (.cells cs.toArray 58);have j8:=X.lt;have l2:=a9.lt;have a8:=mH hA j8 6 (.slice (some (ad Q.1.size 0)) 1 1);have a3:=g9.other (Gp g2) 6 (.slice (some (ad Q.1.size 0)) 1 1)
     have W:=d3.set1 6 (.slice (some (ad Q.1.size 0)) 1 1);have h9:=mW HH e8 h8 d5 G 6 (.slice (some (ad Q.1.size 0)) 1 1);have a6:=e8.R d5 6 (.slice (some (ad Q.1.size 0)) 1 1);have y6:=d3.cell 6;have yf:=d3.frozen 6;have E:=O (EQ a8 (EQ a3 (EQ W (EQ h9 a6))));clear a8 a3 W h9 a6 hA g9 d3 e8 h8 a9 X b8 b9 h7 hX d9;go_wp2_with fail;let ⟨a8,a3,W,h9,a6⟩:=E
     clear E y6 yf i4;let ⟨q7,j5⟩:=eX (Q.1.size)
     rw[j5]at a8 a3 W h9 a6 i3 ⊢;change ak _ y 58 [I 3,I 0,.string x,I 0,.bool false,I 0,.slice (some (ad q7 0)) 1 1]at W;generalize (Q.alloc (.cells cs.toArray 58)).setCell (ad y 6) (.slice (some (ad q7 0)) 1 1)=W9 at *;apply (aQ h9 gx).mono;rintro e j6 ⟨b7,rfl,j3,i8,d7,g1⟩;have e5:=a3.kp b7 C C;have e7:=W.kp b7 G G;have d2:ExL (fun c=>w.1.size<=c/\c≠w.1.size) j6 [I 3,I 0,.string x,I 0,.bool false,I 0,.slice (some (ad q7 0)) 1 1] (ds x xe):=ExL.CQ (fun c hc=>by have g6:W6.1.size<=c:=hc;exact⟨by omega,by omega⟩) (ExL.keep (fun c o v hc hv=>by have g6:W6.1.size<=c:=hc;rw[<-hv];simp only[FI];rw[b7.block c (FF W9 _ hv) (by omega) (by omega)]) a8)
     have i2:bj false k (pP S.T (A+1) k) (ds x xe) j3 i8:=by rw[HR.o];exact(e0.bind (R2:=fun xe j=>ap (aU S.T gx j) fun _ m=>some (.ok (ds x xe,m))) (d7.ret (ds x xe))).EE
     have hF:=fX HH (a6.trans b7) g1 e5 rl i1 d2 i2;have D:=d2.cells.1;have Y:=d2.cells.2;obtain⟨cz,i0⟩:=eX ([I 3,I 0,.string x,I 0,.bool false,I 0,.slice (some ⟨q7,0,none⟩) 1 1]);rw[i0]at hF D Y e7;have V:=O hF;have HZ:=O e5;have d0:=O e7;clear i0 d2 hF e5 e7 a6 g1 i2 e0 d7 b7 a8 a3 W h9;go_wp2_with (first| (with_reducible refine l0 58 ?_;refine ac c9 c8 bC rfl (.tmp 4) rfl y cz rfl d0 D ?_)| (with_reducible refine s0 58 ?_;refine ab bC rfl (.tmp 2) (.tmp 51) rfl w.1.size cz _ rfl rfl HZ rfl D Y ?_));exact aC c9 c8 bC V.1 D rfl rfl rfl V.2
 .have l5:bad=false:=by
   cases bad
   .rfl
   .cases hm
  subst l5;simp only[if_true]at Z;cases f with
  |zero=>exact absurd (mJ S.T k) (f9 rfl)
  |succ A=>
   simp only[Hm,Gx]at hm;have hR:pP S.T (A+1) k=ap (pE S.T A 1 (k+1)) fun x j=>ap (aU S.T ky j) fun _ k=>some (.ok (x,k)):=by rw[pP,aD hm]
   have e1:false=false->pE S.T A 1 (k+1)≠none:=fun _ e=>f9 rfl (by rw[hR,e];rfl);have d9:=hE A rfl W1 1 (k+1) (by decide) (by decide) Z e1;have HR:=O hR;clear hm hR e1 f9 hE;go_wp2_with fail;apply d9.mono;rintro e W2 ⟨K,cs,x,j,U,rfl,hX,F,h2⟩;have a4:=d8.kp K C C;have k0:=d8.lt;have l6:=K.size;have D:=hX.cells.1;have Y:=hX.cells.2;have a2:=(e9.trans K).alloc (.cells cs.toArray 58);have g:=a4.alloc (.cells cs.toArray 58);have h3:=h2.alloc (.cells cs.toArray 58);have e4:=ak.new W2 58 cs;have g5:ExL (fun c=>W1.1.size<=c) (W2.alloc (.cells cs.toArray 58)) cs x:=ExL.keep (fun c o v _ hv=>by rw[<-hv];simp only[FI];rw[(Gz W2 (.cells cs.toArray 58) none).block c (FF W2 _ hv) (by simp)]) hX
   have E:=O (EQ a2 (EQ g (EQ h3 (EQ e4 g5))));clear d9 hX a4 d8 K e9 Z h2 a2 g h3 e4 g5;go_wp2_with (with_reducible refine s0 58 ?_;refine bf bC rfl (.tmp 3) (.tmp 8) rfl W2 rJ cs rfl rfl D Y _ rfl rfl rfl ?_);let ⟨a2,g,h3,e4,g5⟩:=E
   clear E;let ⟨y,hy⟩:=eX (W2.1.size)
   rw[hy]at l6 e4 ⊢;change ak (W2.alloc (.cells cs.toArray 58)) y 58 cs at e4;generalize W2.alloc (.cells cs.toArray 58)=J at *;apply (aQ h3 ky).mono;rintro e W4 ⟨g3,rfl,j2,j4,e0,h5⟩;have G:y≠b:=by omega
   have M:=g.kp g3 C C;have R:=e4.kp g3 G G;have k2:ExL (fun c=>w.1.size<=c/\c≠w.1.size) W4 cs x:=ExL.CQ (fun c hc=>by have g6:W1.1.size<=c:=hc;exact⟨by omega,by omega⟩) (ExL.keep (fun c o v hc hv=>by have g6:W1.1.size<=c:=hc;rw[<-hv];simp only[FI];rw[g3.block c (FF J _ hv) (by omega) (by omega)]) g5)
   have k8:bj false k (pP S.T (A+1) k) x j2 j4:=by rw[HR.o];exact(F.bind (R2:=fun x j=>ap (aU S.T ky j) fun _ k=>some (.ok (x,k))) (e0.ret x)).EE
   have V:=O (fX HH (a2.trans g3) h5 M rl i1 k2 k8);have HZ:=O M;have d0:=O R;clear M R k2 k8 g3 h5 a2 g h3 e4 g5 F e0;go_wp2_with (first| (with_reducible refine l0 58 ?_;refine ac c9 c8 bC rfl (.tmp 3) rfl y cs rfl d0 D ?_)| (with_reducible refine s0 58 ?_;refine ab bC rfl (.tmp 2) (.tmp 11) rfl w.1.size cs _ rfl rfl HZ rfl D Y ?_));exact aC c9 c8 bC V.1 D rfl rfl rfl V.2
def qp(b:Nat)(S:bp)(n f:Nat)(bad:Bool):Prop:=∀ (w:Fk) (k:Nat),Dr w b S k bad->(bad=false->pE S.T f n k≠none)->Jq prog 166 #[.pointer (some ⟨b,0,none⟩),.int .i64 (n:Int)] w (DX w b S bad k (pE S.T f n k))
theorem yE(T:List Wd)(f k:Nat)(h:pE T f 6 k≠none):∃g,f=g+1/\pE T f 6 k=pU T g k:=by
 cases f with
 |zero=>exact absurd (pZ T 6 k) h
 |succ f=>
  refine⟨f,z,?_⟩;rw[pE]at h ⊢;rcases hx:pU T f k with _| (j|⟨x,j⟩)
  .rfl
  .rfl
  .rw[hx,ay]at h;rw[ay];cases f with
   |zero=>rw[hO]at hx;cases hx
   |succ f=> have:=iZ (cq T j);rw[pL,aD (by omega)]
theorem iD{f:Nat}{bad:Bool}(F:∀g,(f=g+1∨bad=true)->(bad=true->g=0)->DU b S g bad):qp b S 6 f bad:=by
 intro w k h G;let ⟨a3,a0,a1⟩:=gf
 have a2:=h.lt;have Y:=O h;have H:=h.alloc (.cells #[I 0,I 0,.string ⟨#[]⟩,I 0,.bool false,I 0,.slice none 0 0] 58);have E:ak (w.alloc (.cells #[I 0,I 0,.string ⟨#[]⟩,I 0,.bool false,I 0,.slice none 0 0] 58)) w.1.size 58 rJ:=Df _ _;have W:Kp w (w.alloc (.cells #[I 0,I 0,.string ⟨#[]⟩,I 0,.bool false,I 0,.slice none 0 0] 58)) b b:=(Kp.refl w b b).alloc _;clear h;have K:w.1.size≠b:=by omega
 have Q:Jq prog 183 #[Pt b] (w.alloc (.cells #[I 0,I 0,.string ⟨#[]⟩,I 0,.bool false,I 0,.slice none 0 0] 58)) (DX (w.alloc (.cells #[I 0,I 0,.string ⟨#[]⟩,I 0,.bool false,I 0,.slice none 0 0] 58)) b S bad k (pE S.T f 6 k)):=by
  cases bad
  .obtain⟨g,rfl,U⟩:=yE S.T f k (G z);rw[U];exact F g (Or.inl z) nofun _ k H (fun _=>by rw[<-U];exact G z)
  .refine(F 0 (Or.inr z) (fun _=>z) _ k H nofun).mono ?_;rintro e w' ⟨h1,cs,x,j,R,h2,C,h4,h5⟩;exact⟨h1,cs,x,j,R,h2,C,h4.EP,h5⟩
 clear F G;go_in;go_wp2_with fail;generalize w.alloc (.cells #[I 0,I 0,.string ⟨#[]⟩,I 0,.bool false,I 0,.slice none 0 0] 58)=W0 at *;apply Q.mono;rintro e a6 ⟨D,cs,x,j,R,rfl,A,V,C⟩;have J:=E.kp D K K;have a4:=E.lt;have M:=A.cells.1;have a7:=A.cells.2;have N:ExL (fun c=>w.1.size<=c/\c≠w.1.size) a6 cs x:=ExL.CQ (fun c hc=>by have a5:W0.1.size<=c:=hc;exact⟨by omega,by omega⟩) A;have X:=O (fX Y (W.trans D) C J rl a2 N V);have Z:=O J;clear Q A N J E D W H C V;go_wp2_with (with_reducible refine s0 58 ?_;refine ab bC z (.tmp 4) (.tmp 10) z w.1.size cs _ z z Z z M a7 ?_);exact aC a0 a1 bC X.1 M z z z X.2
structure Dt (w0 w:Fk) (b z y:Nat) (S:bp) (l:Ex) (j:Nat) (bd:Bool):Prop where
 ex:∃v0 v1 v2 v3 v4 v5 v6,Xc w y v0 v1 v2 v3 v4 v5 v6/\ExL (fun c=>w0.1.size<=c/\c≠y/\c≠z) w [v0,v1,v2,v3,v4,v5,v6] l
 zz:Xc w z (.int .i64 0) (.int .i64 0) (.string ⟨#[]⟩) (.int .i64 0) (.bool false) (.int .i64 0) (.slice none 0 0)
 rd:Dr w b S j bd
 kp:Kp w0 w b b
def mn(T:List Wd)(bad:Bool)(k f n:Nat)(g:Nat)(l:Ex)(j:Nat)(bd:Bool):Prop:=(∀x jf bf,bj bd j (pL T g n n l j) x jf bf->bj bad k (pE T f n k) x jf bf)/\(bd=false->pL T g n n l j≠none)
theorem mn.stop{T:List Wd}{bad:Bool}{f:Nat}{l:Ex}(_:1<=n)(h:mn T bad k f n g l j z0)(w:ez z0 T j n=0):bj bad k (pE T f n k) l j z0:=by
 apply h.1 l j z0;cases z0
 .have D:=h.2 z;cases g with
  |zero=>exact absurd (by simp[pL]) D
  |succ g=>
   rw[pL];split
   .exact bj.pure _ _ _
   .rename_i C;exfalso;unfold ez at w;have A:bm (cq T j)=n:=by omega
    rw[aD ⟨rfl,A⟩]at w;exact C (.inl w)
 .exact .inl ⟨z,z,z⟩
theorem mn.go{T:List Wd}{bad:Bool}{f o:Nat}{l:Ex}(h:mn T bad k f n g l j z0)(C:ez z0 T j n=o)(Y:o≠0):
  z0=false/\cq T j=o/\bm o=n/\∃H,g=H+1/\pE T H (n+1) (j+1)≠none/\∀x F D,bj false (j+1) (pE T H (n+1) (j+1)) x F D->
   (n≠3->mn T bad k f n H (dU o l x) F D)/\(n=3->bj bad k (pE T f n k) (dU o l x) F D):=by
 unfold ez at C;split at C
 .rename_i W;let ⟨V,J⟩:=W
  subst V;rw[C]at J;refine⟨z,C,J,?_⟩;have A:=h.2 z;cases g with
  |zero=>exact absurd (by simp[pL]) A
  |succ g=>
   have E:pL T (g+1) n n l j=ap (pE T g (n+1) (j+1)) fun x j=>pL T g n (fq n) (dU o l x) j:=by rw[pL,am (by rw[C];omega),C,J]
   rw[E]at A;refine⟨g,z,fun e=>A (by rw[e];rfl),fun x F D G=>⟨fun K=>?_,fun K=>?_⟩⟩
   .have M:fq n=n:=by unfold fq;rw[am K]
    rw[M]at E A;refine⟨fun X Q N S=>h.1 X Q N ?_,fun U=>?_⟩
    .rw[E];exact(G.bind (R2:=fun x j=>pL T g n n (dU o l x) j) S).EE
    .subst U;rcases G with ⟨w,-⟩|⟨-,-,w⟩|⟨-,w,-⟩
     .cases w
     .rw[w,ay]at A;exact A
     .cases w
   .apply h.1;rw[E];refine(G.bind (R2:=fun x j=>pL T g n (fq n) (dU o l x) j) ?_).EE;subst K;cases D
    .rcases G with ⟨w,-⟩|⟨-,-,w⟩|⟨-,w,-⟩
     .cases w
     .rw[w,ay]at A;cases g with
      |zero=>exact absurd (by simp[pL]) A
      |succ g=> have R:fq 3=2:=z;rw[R,pL,aD (by omega)];exact bj.pure _ _ _
     .cases w
    .exact .inl ⟨z,z,z⟩
 .exact absurd C.symm Y
theorem mn.start{T:List Wd}{bad:Bool}{f:Nat}(G:1<=n)(J:n<=6)(C:bad=false->pE T f n k≠none):(bad=false->pE T f (n+1) k≠none)/\∀x j w,bj bad k (pE T f (n+1) k) x j w->mn T bad k f n f x j w:=by
 have A:bad=false->ap (pE T f (n+1) k) (fun e j=>pL T f n n e j)=pE T f n k:=fun g=>by
  rcases hx:pE T f n k with _|R
  .exact absurd hx (C g)
  .exact tX T G J hx
 refine⟨fun g e=>?_,fun x j w D=>⟨fun X N M F=>?_,fun g=>?_⟩⟩
 .have:=A g;rw[e]at this;exact C g this.symm
 .cases bad
  .rw[<-A rfl];exact D.bind (R2:=fun e j=>pL T f n n e j) F
  .rcases D with ⟨-,rfl,rfl⟩|⟨h,-⟩|⟨h,-⟩
   .exact F.EP
   .cases h
   .cases h
 .subst g;rcases D with ⟨-,h,-⟩|⟨K,-,H⟩|⟨-,h,-⟩
  .cases h
  .subst K;have E:=A z;rw[H,ay]at E;rw[E];exact C z
  .cases h
theorem pn{f:Nat}{bad:Bool}(hn:1<=n)(m0:n<=5)(hE:qp b S (n+1) f bad)(d1:∀g,g<f->qp b S (n+1) g false):qp b S n f bad:=by
 intro w k h g9;have m2:=h.lt;have HH:=O h;let ⟨d9,HS⟩:=mn.start hn (by omega) g9
 have h0:=h.alloc (.cells #[I 0,I 0,.string ⟨#[]⟩,I 0,.bool false,I 0,.slice none 0 0] 58);have d2:Xc (w.alloc (.cells #[I 0,I 0,.string ⟨#[]⟩,I 0,.bool false,I 0,.slice none 0 0] 58)) w.1.size (I 0) (I 0) (.string ⟨#[]⟩) (I 0) (.bool false) (I 0) (.slice none 0 0):=Df _ _;have d8:Kp w (w.alloc (.cells #[I 0,I 0,.string ⟨#[]⟩,I 0,.bool false,I 0,.slice none 0 0] 58)) b b:=(Kp.refl w b b).alloc _;have d6:=hE _ k h0 d9;have e1:(((n+1:Nat)):Int)=(n:Int)+1:=by omega
 rw[e1]at d6;have l8:¬ (5:Int)< (n:Int):=by omega
 have l6:(0:Int)<=(n:Int):=by omega
 go_in;go_wp2_with fail;generalize w.alloc (.cells #[I 0,I 0,.string ⟨#[]⟩,I 0,.bool false,I 0,.slice none 0 0] 58)=W0 at *;apply d6.mono;rintro e X ⟨b8,cs,x,j,bd,rfl,hX,hO,h1⟩;let ⟨xk,xn,xs,xl,xo,xp,xa⟩:=x
 have a8:=hX;unfold ExL at hX;obtain⟨a,cap,rfl,m7,j9⟩:=hX;have e5:=d2.lt;have k6:=b8.size;have k8:=d8.size;have HB:Dt w (X.alloc (.cells #[I xk,I xn,.string xs,I xl,.bool xo,I xp,.slice a xa.length cap] 58)) b w.1.size X.1.size S (.mk xk xn xs xl xo xp xa) j bd:=by
  refine⟨⟨_,_,_,_,_,_,_,Df _ _,?_⟩,(d2.of (b8.block _ e5 (by omega) (by omega))).alloc _,h1.alloc _,(d8.trans b8).alloc _⟩;refine ExL.CQ (fun c R=>?_) (ExL.keep (fun c o v R U=>?_) a8.bound)
  .obtain⟨g5,l7⟩:W0.1.size<=c/\c<X.1.size:=R;exact⟨by omega,by omega,by omega⟩
  .have h2:=(Gz X (.cells #[I xk,I xn,.string xs,I xl,.bool xo,I xp,.slice a xa.length cap] 58) none).block c (FF X _ U) (by simp);rw[<-U];simp[FI,h2]
 have HR:=O (HS _ _ _ hO);go_wp2;generalize k7:X.alloc (.cells #[I xk,I xn,.string xs,I xl,.bool xo,I xp,.slice a xa.length cap] 58)=W2 at *;have h8:X.1.size≠w.1.size:=by omega
 have j3:w.1.size<=X.1.size:=by omega
 generalize hy:X.1.size=y at *;go_loopg [] f (fun gx wr=>∃ (g:Nat) (l:Ex) (j:Nat) (bd:Bool),gx=g/\g<=f/\Hid (mn S.T bad k f n g l j bd)/\Hid (Dt w wr b w.1.size y S l j bd))
 .exact⟨f,_,_,_,rfl,rl,HR,HB⟩
 .obtain⟨g,l,j,bd,i9,m5,HR,HB⟩:=hrel;obtain⟨⟨v0,v1,v2,v3,v4,v5,v6,C,Q⟩,A,F,V⟩:=HB;obtain⟨H,ln,M,N,lo,lp,G⟩:=l;obtain⟨K,J,j6⟩:∃K J,[v0,v1,v2,v3,v4,v5,v6]=[I H,I ln,.string M,I N,.bool lo,I lp,.slice K G.length J]:=by have h:=Q;unfold ExL at h;obtain⟨K,J,h,-⟩:=h;exact⟨K,J,h⟩
  cases j6;have HK:∀w2,bL wr w2->Xc w2 y (I H) (I ln) (.string M) (I N) (.bool lo) (I lp) (.slice K G.length J)/\Xc w2 w.1.size (I 0) (I 0) (.string ⟨#[]⟩) (I 0) (.bool false) (I 0) (.slice none 0 0)/\Dr w2 b S j bd/\Kp w w2 b b/\ExL (fun c=>w.1.size<=c/\c≠y/\c≠w.1.size) w2 [I H,I ln,.string M,I N,.bool lo,I lp,.slice K G.length J] (.mk H ln M N lo lp G):=fun w2 hb=>by refine⟨C.of (hb.block _ C.lt),A.of (hb.block _ A.lt),F.below hb,V.trans (bi hb),ExL.keep (fun c o v R U=>?_) Q⟩;have h2:=hb.block c (FF wr _ U);rw[<-U];simp[FI,h2]
  have b7:=lR F hn;obtain⟨o,HO⟩:=eX (ez bd S.T j n);rw[HO]at b7;go_wp2_with fail;refine b7.mono ?_;rintro e w2 ⟨rfl,b4⟩;have HQ:=O (HK w2 b4);by_cases h0:o=0
  .subst h0;obtain⟨C,A,-,-,-⟩:=HQ.o;have y0:=C.c0;have y1:=C.c1;have y2:=C.c2;have y3:=C.c3;have y4:=C.c4;have y5:=C.c5;have y6:=C.c6;have j1:=A.c0;have t1:=A.c1;have t2:=A.c2;have t3:=A.c3;have t4:=A.c4;have t5:=A.c5;have t6:=A.c6;have f0:=A.frozen 0;have f1:=A.frozen 1;have f2:=A.frozen 2;have f3:=A.frozen 3;have f4:=A.frozen 4;have f5:=A.frozen 5;have f6:=A.frozen 6;go_wp2_with fail;obtain⟨C,A,F,V,Q⟩:=HQ.o;have a1:=cP V (z:=w.1.size) rl;refine eb (A.set _ _ _ _ _ _ _) rfl rfl rfl ⟨a1 _ _ _ _ _ _ _,_,_,j,bd,rfl,mi Q _ _ _ _ _ _ _,HR.stop hn HO,?_⟩;exact HH.fin F (a1 _ _ _ _ _ _ _) (bb (by omega) _ _ _ _ _ _ _)
  .have l4:decide ((0:Int)< (o:Int))=true:=by simp;omega
   have m1:(0:Int)< (o:Int):=by omega
   let ⟨i0,g4,f8,g',j5,h3,HG⟩:=HR.go HO h0
   subst i0;subst j5;subst i9;have e8:=O (EQ g4 (EQ f8 h3));go_wp2_with fail;let ⟨k0,j8,f9,k9,l2⟩:=HQ
   have b9:=lR f9 hn;rw[HO]at b9;apply b9.mono;rintro e E ⟨rfl,e6⟩;have a5:=O (HK E (b4.trans (e6.mono b4.size)));let ⟨C,A,F,V,Q⟩:=a5
   have i5:j<S.T.length:=jE S.T (by rw[e8.o.1];exact h0);have m4:=F.mx;have c1:=F.c1;have f1:=F.hd.frozen 1;have b5:y≠b:=by omega
   have j4:=F.step i5;have j7:Xc (E.setCell (ad b 1) (I ((j:Int)+1))) y (I H) (I ln) (.string M) (I N) (.bool lo) (I lp) (.slice K G.length J):=C.of (FK E (ad b 1) _ y b5);have j0:=V.Dg 1 (I ((j:Int)+1));go_wp2;have a0:Xc (E.setCell (ad b 1) (I ((j:Int)+1))).drew y (I H) (I ln) (.string M) (I N) (.bool lo) (I lp) (.slice K G.length J):=j7;refine al [8] (fun W=>Xc W y (I H) (I ln) (.string M) (I N) (.bool lo) (I lp) (.slice K G.length J)) rfl ?_;refine tg _ 0 a0 (fun _ h=>h.al) ?_;refine tg _ 1 a0 (fun _ h=>h.al) ?_;refine tg _ 2 a0 (fun _ h=>h.al) ?_;refine tg _ 3 a0 (fun _ h=>h.al) ?_;refine tg _ 4 a0 (fun _ h=>h.al) ?_;refine tn 5 fun a7 hK=>?_;go_simp
   have e3:Dr (E.setCell (ad b 1) (I ((j:Int)+1))).drew b S (j+1) false:=j4.drewN 1;have e0:=j0.drew;have d3:=d1 g' (by omega) (E.setCell (ad b 1) (I ((j:Int)+1))).drew (j+1) e3 (fun _=>e8.2.2);rw[show (((n+1:Nat)):Int)=(n:Int)+1 by omega]at d3;try rw[show IntKind.i64.wrap ((n:Int)+1)=(n:Int)+1 by rw[IntKind.wrap_i64];omega]
   apply d3.mono;rintro e Y ⟨a6,l5,x5,j2,b6,rfl,hX,g8,h5⟩;let ⟨qk,qn,qs,ql,qo,Z,qa⟩:=x5
   have a8:=hX;unfold ExL at hX;obtain⟨a3,a4,rfl,m6,k1⟩:=hX;have c9:=a0.of (a6.block y a0.lt b5 b5);apply hK _ _ (fun _=>c9);refine tn 6 fun a7 hK=>?_;go_simp;have i1:=a6.size;have d4:(E.setCell (ad b 1) (I ((j:Int)+1))).drew.1.size=E.1.size:=by simp[World.drew,Gc]
   have m3:y<E.1.size:=a5.1.lt;have i7:w.1.size<E.1.size:=a5.2.1.lt;rw[d4]at i1;have g2:∀c,c≠b->(E.setCell (ad b 1) (I ((j:Int)+1))).drew.1[c]? =E.1[c]? :=fun c R=>FK E (ad b 1) _ c R;have d5:∀c,c<E.1.size->c≠b->Y.1[c]? =E.1[c]? :=fun c R d7=> (a6.block c (by rw[d4];exact R) d7 d7).trans (g2 c d7);have hA:ExL (fun c=>w.1.size<=c/\c≠y/\c≠w.1.size) Y [I H,I ln,.string M,I N,.bool lo,I lp,.slice K G.length J] (.mk H ln M N lo lp G):=
    ExL.keep (fun c o v R U=>by rw[<-U];simp[FI,d5 c (FF E _ U) (by have:=R.1;omega)]) a5.2.2.2.2
   have e4:ExL (fun c=>w.1.size<=c/\c≠y/\c≠w.1.size) Y [I qk,I qn,.string qs,I ql,.bool qo,I Z,.slice a3 qa.length a4] (.mk qk qn qs ql qo Z qa):=
    ExL.CQ (fun c R=>by have g5:(E.setCell (ad b 1) (I ((j:Int)+1))).drew.1.size<=c:=R;rw[d4]at g5;exact⟨by omega,by omega,by omega⟩) a8
   have hT:=nr hA e4 (show w.1.size<=Y.1.size/\Y.1.size≠y/\Y.1.size≠w.1.size from⟨by omega,by omega,by omega⟩) o;have g6:Xc Y w.1.size (I 0) (I 0) (.string ⟨#[]⟩) (I 0) (.bool false) (I 0) (.slice none 0 0):=a5.2.1.of (d5 _ i7 (by omega));have g3:=e0.trans a6;have D:=c9.alloc (.cells #[I H,I ln,.string M,I N,.bool lo,I lp,.slice K G.length J,I qk,I qn,.string qs,I ql,.bool qo,I Z,.slice a3 qa.length a4] 58);have h4:=g6.alloc (.cells #[I H,I ln,.string M,I N,.bool lo,I lp,.slice K G.length J,I qk,I qn,.string qs,I ql,.bool qo,I Z,.slice a3 qa.length a4] 58)
   have h6:=h5.alloc (.cells #[I H,I ln,.string M,I N,.bool lo,I lp,.slice K G.length J,I qk,I qn,.string qs,I ql,.bool qo,I Z,.slice a3 qa.length a4] 58);have e9:=g3.alloc (.cells #[I H,I ln,.string M,I N,.bool lo,I lp,.slice K G.length J,I qk,I qn,.string qs,I ql,.bool qo,I Z,.slice a3 qa.length a4] 58);generalize l9:Y.alloc (.cells #[I H,I ln,.string M,I N,.bool lo,I lp,.slice K G.length J,I qk,I qn,.string qs,I ql,.bool qo,I Z,.slice a3 qa.length a4] 58)=W6 at *;generalize Y.1.size=q5 at *;have hB:Dt w (hm W6 y (I 6) (I 0) (.string ⟨#[]⟩) (I 0) (.bool false) (I o) (.slice (some (ad q5 0)) 2 2)) b w.1.size y S (dU o (.mk H ln M N lo lp G) (.mk qk qn qs ql qo Z qa)) j2 b6:=by have a1:=cP e9 (z:=y) j3 (I 6) (I 0) (.string ⟨#[]⟩) (I 0) (.bool false) (I o) (.slice (some (ad q5 0)) 2 2);refine⟨⟨_,_,_,_,_,_,_,D.set _ _ _ _ _ _ _,ExL.keep (fun c o v R U=>?_) hT⟩,h4.of (bb (Gp h8) _ _ _ _ _ _ _),HH.fin h6 a1 (bb (Gp b5) _ _ _ _ _ _ _),a1⟩;rw[<-U];simp only[FI];rw[bb R.2.1]
   have c8:=O hB;have g7:=O (HG _ j2 b6 g8);clear hB hT hA e4 a8 k1 g6 h4 h6 e9 g3 d5 g2 a6 h5 e3 e0 c9 a0 d3 g8;apply hK _ _ (fun _=>D);clear hK a7;refine t0 7 D ?_;refine tn 8 fun a7 hK=>?_;have i8:=D.c0;have i6:=D.c1;have s2:=D.c2;have s3:=D.c3;have s4:=D.c4;have s5:=D.c5;have s6:=D.c6;have f0:=D.frozen 0;have e2:=D.frozen 1;have f2:=D.frozen 2;have f3:=D.frozen 3;have f4:=D.frozen 4;have f5:=D.frozen 5;have f6:=D.frozen 6;go_simp;apply hK _ _ (fun h=>absurd h (by decide));clear hK a7 i8 i6 s2 s3 s4 s5 s6 f0 e2 f2 f3 f4 f5 f6 D;simp only[hm]at c8
   generalize ((((((W6.setCell (ad y 0) (I 6)).setCell (ad y 1) (I 0)).setCell (ad y 2) (.string ⟨#[]⟩)).setCell (ad y 3) (I 0)).setCell (ad y 4) (.bool false)).setCell (ad y 5) (I o)).setCell (ad y 6) (.slice (some (ad q5 0)) 2 2)=W8 at *;refine dn ?_;rename_i ha;go_simp;apply ha;by_cases d0:n=3
   .have i3:((n:Int)==3)=true:=by simp[d0]
    have h9:=O (g7.2 d0);let ⟨⟨v0,v1,v2,v3,v4,v5,v6,C,Q⟩,A,F,V⟩:=c8
    have f7:=Q;unfold dU ExL at f7;obtain⟨a9,l3,k2,-⟩:=f7;cases k2;have y0:=C.c0;have y1:=C.c1;have y2:=C.c2;have y3:=C.c3;have y4:=C.c4;have y5:=C.c5;have y6:=C.c6;have j1:=A.c0;have t1:=A.c1;have t2:=A.c2;have t3:=A.c3;have t4:=A.c4;have t5:=A.c5;have t6:=A.c6;have f0:=A.frozen 0;have e2:=A.frozen 1;have f2:=A.frozen 2;have f3:=A.frozen 3;have f4:=A.frozen 4;have f5:=A.frozen 5;have f6:=A.frozen 6;have i2:=O (EQ A (EQ F (EQ V Q)));go_wp2;let ⟨A,F,V,Q⟩:=i2
    have a1:=cP V (z:=w.1.size) rl;refine eb (A.set _ _ _ _ _ _ _) rfl rfl rfl ⟨a1 _ _ _ _ _ _ _,_,_,j2,b6,rfl,mi Q _ _ _ _ _ _ _,h9,?_⟩;exact HH.fin F (a1 _ _ _ _ _ _ _) (bb (by omega) _ _ _ _ _ _ _)
   .have i3:((n:Int)==3)=false:=by rw[beq_eq_false_iff_ne];omega
    have i4:=O (g7.1 d0);go_wp2;go_roundg g';case measure=>omega
    case rel=>exact⟨g',_,j2,b6,rfl,by omega,i4,c8⟩
theorem xe(b:Nat)(S:bp):DP b S 0 true/\DU b S 0 true:=by have g:DP b S 0 true:=hH (fun j e=>by cases e);exact⟨g,kO (fun j e=>by cases e) g⟩
theorem ku{f:Nat}{bad:Bool}(F:qp b S 6 f bad)(D:∀g,g<f->∀n,1<=n->n<=6->qp b S n g false)(m:Nat):∀n,1<=n->n<=6->n+m=6->qp b S n f bad:=by
 induction m with
 |zero=>
  intro n j E C;have:n=6:=by omega
  subst this;exact F
 |succ m A=> intro n j E C;exact pn j (by omega) (A (n+1) (by omega) (by omega) (by omega)) (fun g w=>D g w (n+1) (by omega) (by omega))
structure BQ (b:Nat) (S:bp) (f:Nat):Prop where
 p:DP b S f false
 u:DU b S f false
 e:∀n,1<=n->n<=6->qp b S n f false
theorem qp.all{f:Nat}{bad:Bool}(h:∀n,1<=n->n<=6->qp b S n f bad):DE b S f bad:=fun w n k A g hd j=>h n A g w k hd j
theorem kI(b:Nat)(S:bp):∀f,∀g,g<=f->BQ b S g:=by
 intro f;induction f with
 |zero=>
  intro g G;have:g=0:=by omega
  subst this;have F:DP b S 0 false:=hH (fun A e=>by cases e);refine⟨F,kO (fun A e=>by cases e) F,fun n E D=>ku (iD (fun A j _=>by rcases j with j|j<;>cases j)) (fun g C=>absurd C (by omega)) (6-n) n E D (by omega)⟩
 |succ f w=>
  intro g G;rcases Nat.lt_or_ge g (f+1) with C|H
  .exact w g (by omega)
  have:g=f+1:=by omega
  subst this;refine⟨hH (fun A e=>?_),kO (fun A e=>?_) (w f rl).p,fun n E D=>ku (iD (fun A j _=>?_)) (fun g C=> (w g (by omega)).e) (6-n) n E D (by omega)⟩
  .cases e;exact qp.all (w f rl).e
  .cases e;exact(w f rl).u
  .rcases j with j|j
   .cases j;exact(w f rl).u
   .cases j
theorem rc(b:Nat)(S:bp)(f:Nat)(n:Nat)(w:1<=n)(j:n<=6):qp b S n f true:=ku (iD (fun C _ A=>by rw[A rfl];exact(xe b S).2)) (fun g _=> (kI b S g g rl).e) (6-n) n w j (by omega)
theorem dM(b:Nat)(S:bp)(f:Nat)(bad:Bool):DE b S f bad:=by
 cases bad
 .exact qp.all (kI b S f f rl).e
 .exact qp.all (rc b S f)
theorem wP:∃d,prog.underlying 32=some d/\d.isRow=true:=by
 have h:(prog.underlying 32).map (·.isRow)=some true:=by kernel_rfl
 let ⟨d,j,g⟩:=Ga.1 h
 exact⟨d,j,g⟩
theorem jO:(prog.info? 32).map (·.size)=some 2:=by kernel_rfl
theorem nU{bad:Bool}(h:Dr w b S k bad):
  Jq prog 92 #[Pt b] w fun e w'=>e= .returned (.agg #[I (cB S.T k).1,I (cB S.T k).2])/\Below w.1.size w w':=by
 let ⟨a4,N,Q⟩:=wP
 have a6:=h.mx;have a5:=h.le;have a7:=h.lt;have G:=h.alloc (.cells #[I 0,I 0] 32);have g:ak (w.alloc (.cells #[I 0,I 0] 32)) w.1.size 32 [I 0,I 0]:=Df _ _;have H:Below w.1.size w (w.alloc (.cells #[I 0,I 0] 32)):=(FB _ w).alloc (FL _) _;have c0:=G.c0;have c1:=G.c1;have R:=G.Ec;obtain⟨P,U⟩:=eX (cB S.T k);rw[U];let ⟨A,C⟩:=P
 have z0:=g.cell 0;have z1:=g.cell 1;have f0:=g.frozen 0;have f1:=g.frozen 1;have b4:=g.lt;have HF:=O (fun (n:Nat) (x y:Int) (hx:x=A) (hy:y=C)=> (show ak ((((w.alloc (.cells #[I 0,I 0] 32)).drewN n).setCell (ad w.1.size 0) (I x)).setCell (ad w.1.size 1) (I y)) w.1.size 32 [I A,I C]/\Below w.1.size w ((((w.alloc (.cells #[I 0,I 0] 32)).drewN n).setCell (ad w.1.size 0) (I x)).setCell (ad w.1.size 1) (I y)) from by subst hx;subst hy;exact⟨((g.drewN n).set1 0 _).set1 1 _,IK (p:=(ad w.1.size 1)) (IK (p:=(ad w.1.size 0)) (cc H n) (FL _) _) (FL _) _⟩))
 have J:(if k<S.T.length then (A,C)=((S.T.getD k default).line,(S.T.getD k default).Dm) else (A,C)=(0,0)):=by
  rw[<-U];unfold cB;split
  .rfl
  .rename_i E;rw[List.getD_eq_getElem?_getD,List.getElem?_eq_none (by omega)];rfl
 by_cases E:k<S.T.length
 .rw[aD E]at J;have a0:¬ (S.T.length:Int)<=(k:Int):=by omega
  have a9:(0:Int)<=(k:Int):=by omega
  let ⟨K,M,a1,x0,x1,x2,V,W⟩:=R k E
  rw[a1]at c0;injection J with e1 e2;rw[<-e1]at V;rw[<-e2]at W;have a8:=O E;obtain⟨Z,X⟩:=eX S.T.length;rw[X]at c0 a0 a5 a6 E;go_enter func92,ntmps92;go_wp2_with fail;go_quiet (fail);go_wp2_with fail;have v0:((w.alloc (.cells #[I 0,I 0] 32)).drewN nq).cell? ⟨b,0,none⟩=_:=c0;have v1:((w.alloc (.cells #[I 0,I 0] 32)).drewN nq).cell? ⟨b,1,none⟩=_:=c1;have v3:((w.alloc (.cells #[I 0,I 0] 32)).drewN nq).cell? ⟨K,M+k*5+3,none⟩=_:=V;have v4:((w.alloc (.cells #[I 0,I 0] 32)).drewN nq).cell? ⟨K,M+k*5+4,none⟩=_:=W;have D:=O (g.drewN (nq+1));have Y:=O (cc H (nq+1));have hV:(w.alloc (.cells #[I 0,I 0] 32)).drewN (nq+1)=((w.alloc (.cells #[I 0,I 0] 32)).drewN nq).drew:=z;rw[hV]at D Y
  generalize (w.alloc (.cells #[I 0,I 0] 32)).drewN nq=a2 at *;go_still_tail 10,(by kernel_rfl);change GY _ _ _ _ _ a2.drew;have a3:a2.drew.rangeAt K (M+k*5+3) [I A,I C]:=fun j v F=>by
   rcases j with _|_|j
   .cases F;exact v3
   .cases F;exact v4
   .cases F
  go_wp2_with (first| ((with_reducible refine cY (.store 32 _ _) ?_);refine ab jO z (.tmp 2) (.tmp 24) z w.1.size [I A,I C] _ z z D z z (by intro v F;simp only[FQ,FO,or_false]at F;rcases F with rfl|rfl<;>rfl) ?_)| ((with_reducible refine gU _ (.load 32 _) ?_);refine Gn z 32 (.tmp 23) z K (M+k*5+3) z [I A,I C] a4 a3 N Q jO ?_));refine aC (cs:=[I A,I C]) N Q jO (D.o.DK z) z z z z ⟨z,?_⟩;exact IK (p:=(ad w.1.size 1)) (IK (p:=(ad w.1.size 0)) Y (FL _) _) (FL _) _
 .rw[am E]at J;have a0:(S.T.length:Int)<=(k:Int):=by omega
  cases J;go_enter func92,ntmps92;go_wp2;go_quiet (fail);go_wp2;rename_i nq;have D:=HF nq _ _ z z;exact aC N Q jO D.1 z z z z ⟨z,D.2⟩
def CJ(w:Fk)(b:Nat)(S:bp)(bad:Bool)(k:Nat)(R:PR (List St))(e:GP)(w':Fk):Prop:=Kp w w' b b/\∃ (a:Option Addr) (cap:Nat) (l:List St) (j:Nat) (bad':Bool),e= .returned (.slice a l.length cap)/\aF l.length cap/\aE (w.1.size<=·) w' a 0 l/\bj bad k R l j bad'/\Dr w' b S j bad'
def mY(w:Fk)(b:Nat)(S:bp)(k:Nat)(R:PR St)(e:GP)(w':Fk):Prop:=Kp w w' b b/\∃ (cs:List Fr) (x:St) (j:Nat) (bad':Bool),e= .returned (.agg cs.toArray)/\bX (w.1.size<=·) w' cs x/\bj false k R x j bad'/\Dr w' b S j bad'
def DB(b:Nat)(S:bp)(f:Nat)(bad:Bool):Prop:=∀ (w:Fk) (k:Nat),Dr w b S k bad->(bad=false->pB S.T f k≠none)->Jq prog 98 #[.pointer (some ⟨b,0,none⟩)] w (CJ w b S bad k (pB S.T f k))
def DS(b:Nat)(S:bp)(f:Nat):Prop:=∀ (w:Fk) (k:Nat),Dr w b S k false->pS S.T f k≠none->Jq prog 135 #[.pointer (some ⟨b,0,none⟩)] w (mY w b S k (pS S.T f k))
def gL(T:List Wd)(bad:Bool)(k f:Nat)(g:Nat)(acc:List St)(j:Nat)(bd:Bool):Prop:=(∀x jf bf,bj bd j (hw T g acc j) x jf bf->bj bad k (pB T f k) x jf bf)/\(bd=false->hw T g acc j≠none)
theorem bj.bad{g:Type}{R:PR g}{x:g}(h:bj true k R x j z0):z0=true/\j=k:=by
 rcases h with ⟨-,A,w⟩|⟨h,-⟩|⟨h,-⟩
 .exact⟨A,w⟩
 .cases h
 .cases h
theorem bj.Eo{w:Type}{bad:Bool}{R:PR w}{x:w}(h:bj bad k R x j false):bad=false/\R=some (.ok (x,j)):=by
 rcases h with ⟨-,A,g⟩|⟨h,-,g⟩|⟨h,g,-⟩
 .cases A
 .exact⟨h,g⟩
 .cases g
theorem gL.start{T:List Wd}{bad:Bool}{f:Nat}{u:Unit}(w:bad=false->pB T f k≠none)(h:bj bad k (aU T rm k) u j z0):gL T bad k f (f-1) [] j z0:=by
 cases f with
 |zero=>
  cases bad
  .exact absurd (qk T k) (w z)
  .obtain⟨rfl,rfl⟩:=h.bad;exact⟨fun x E F g=>by obtain⟨rfl,rfl⟩:=g.bad;exact .inl ⟨z,z,z⟩,fun e=>by cases e⟩
 |succ f=>
  refine⟨fun x E F g=>?_,fun e=>?_⟩
  .rw[pB];exact h.bind (R2:=fun _ j=>hw T f [] j) g
  .subst e;let ⟨D,C⟩:=h.Eo
   have A:=w D;rw[pB,C,ay]at A;exact A
theorem gL.next{T:List Wd}{bad:Bool}{f:Nat}{acc:List St}{st:St}(h:gL T bad k f (g+1) acc j false)(G:cr T j kY=false)(C:bj false j (pS T g j) st n0 z0):gL T bad k f g (acc++[st]) n0 z0:=by
 have A:hw T (g+1) acc j=ap (pS T g j) fun s j=>hw T g (acc++[s]) j:=by rw[hw,am (by rw[G];exact FY)]
 refine⟨fun x D F E=>?_,fun e=>?_⟩
 .apply h.1 x D F;rw[A];exact C.bind (R2:=fun s j=>hw T g (acc++[s]) j) E
 .subst e;have w:=h.2 z;rw[A,C.Eo.2,ay]at w;exact w
theorem gL.pos{T:List Wd}{bad:Bool}{f:Nat}{acc:List St}(h:gL T bad k f g acc j false):∃A,g=A+1/\(cr T j kY=false->pS T A j≠none):=by
 have w:=h.2 z;cases g with
 |zero=>exact absurd (ny T acc j) w
 |succ g=> refine⟨g,z,fun C e=>w ?_⟩;rw[hw,am (by rw[C];exact FY),e];rfl
theorem gL.stop{T:List Wd}{bad:Bool}{f:Nat}{acc:List St}{u:Unit}(h:gL T bad k f g acc j z0)(C:z0=false->cr T j kY=true)(w:bj z0 j (aU T kY j) u n0 z1):bj bad k (pB T f k) acc n0 z1:=by
 apply h.1 acc n0 z1;cases z0
 .obtain⟨g,rfl,-⟩:=h.pos;rw[hw,aD (C rfl)];unfold aU at w;rw[aD (C rfl)]at w;rcases w with ⟨D,-⟩|⟨-,rfl,A⟩|⟨-,-,A⟩
  .cases D
  .cases A;exact .inr (.inl ⟨z,z,z⟩)
  .cases A
 .obtain⟨rfl,rfl⟩:=w.bad;exact .inl ⟨z,z,z⟩
theorem jd{f:Nat}{bad:Bool}(hS:∀g,g<f->DS b S g):DB b S f bad:=by
 intro w k Q HN;let ⟨i0,z0,c8,e0,d2,e1,e2⟩:=bJ mS
 have D:=Q.lt;have e8:=Q.mx;have H:=aQ Q rm;go_in;go_wp2_with fail;apply H.mono;rintro e W1 ⟨b8,rfl,j1,d0,b9,M⟩;have F:=O (gL.start HN b9);have A:=O (EQ M b8);go_wp2;go_loopg [3] (f-1) (fun x v X=>∃ (g:Nat) (acc:List St) (j:Nat) (N:Bool),x=g/\(N=false->acc.length<=j)/\g<=f-1/\Hid (gL S.T bad k f g acc j N)/\Hid (aL fn w.1.size X v acc)/\Hid (Dr X b S j N/\Kp w X b b))
 .exact⟨f-1,[],j1,d0,z,by simp,rl,F,O (aL.nil _ _ _),A⟩
 .let ⟨g0,acc,j,N,d5,a6,f3,F,Z,A⟩:=hrel
  obtain⟨a,cap,rfl,a5⟩:=Z.form;have c2:=A.1.c2;cases N
  .obtain⟨g,rfl,a8⟩:=F.pos;subst d5;have f1:=a6 z;have W:=il A.1 kY;let ⟨m,Y⟩:=eX (cr S.T j kY)
   rw[Y]at W a8;go_wp2_with fail;apply W.mono;rintro e W2 ⟨rfl,U⟩;let ⟨M,a0⟩:=A
   have J:=M.below U;have a3:=a0.trans (bi (b:=b) U);have V:=O (Z.kp (bi (b:=b) U) D D);have f2:=a0.size;have e6:=U.size;cases m
   .have a7:=a8 z;have a9:=hS g (by omega) W2 j J a7;obtain⟨e4,e7⟩:j<=S.T.length/\S.T.length<=1000000:=⟨J.le,J.mx⟩;go_wp2_with fail;apply a9.mono;rintro e K ⟨C,cs,st,j2,b4,rfl,a1,G,E⟩;have b6:b4=false->j<j2:=fun e=>by subst e;exact((mK S.T g).2.2 j st j2 J.le G.Eo.2).1
    have R:=a3.trans C;have d9:=O (V.kp C D D);have e3:=C.size;have hl:=a1.cells.1;have b5:(Gd a acc.length cap).ownBlock=none∨∃g,(Gd a acc.length cap).ownBlock=some g/\g<W2.1.size:=by
     obtain⟨cells,-,h5,-⟩:=V.own;rcases ho:(Gd a acc.length cap).ownBlock with _|g
     .exact .inl z
     .exact .inr ⟨g,z,(h5.lt g ho).2⟩
    have HL:=O (show fn.L (fun c=>w.1.size<=c/\(Gd a acc.length cap).ownBlock≠some c) K cs st from bX.CQ (fun c hc=>by
     have f0:=hc;refine⟨by omega,fun e=>?_⟩;rcases b5 with b7|⟨g,b7,h7⟩
     .rw[b7]at e;cases e
     .rw[b7]at e;cases e;omega) a1)
    have A:=O (EQ E R);have d3:=O (F.next Y G);have HB:=O b6;have c9:=bE fW cs (by rw[hl];rfl);unfold fW at c9;clear a1 E R C a9 b5 V J a3 a7 G b6 F a8;have d4:prog.underlying 44=some (.slice 60):=by kernel_rfl
    have d6:acc.length<=10000000:=by omega
    have d1:w.1.size<=K.1.size:=by omega
    go_wp2_with (at_builtin;refine bg fn z (.tmp 16) (.tmp 19) 44 z i0 z0 _ d4 c8 e0 d2 z e1 (by decide) e2 w.1.size K _ (.slice a acc.length cap) acc z d9 cs st HL z z d6 d1 ?_;intro gb e5 W4 d7 d8 e9);go_roundg g;case measure=>omega
    case rel=>
     let ⟨E,R⟩:=A
     have a4:=d8.o;refine⟨g,acc++[st],j2,b4,z,fun e=>?_,by omega,d3,d7,O (EQ ?_ (R.to a4 rl))⟩
     .have:=HB e;simp;omega
     .exact Q.fin E (R.to a4 rl) (a4.block b D)
   .have H:=aQ J kY;go_wp2_with fail;apply H.mono;rintro e K ⟨C,rfl,j3,a2,G,E⟩;go_wp2;go_ret;exact⟨a3.trans C,a,cap,acc,j3,a2,z,a5,(V.kp C D D).Dp,F.stop (fun _=>Y) G,E⟩
  .have H:=aQ A.1 kY;go_wp2_with fail;apply H.mono;rintro e K ⟨C,rfl,j3,a2,G,E⟩;go_wp2;go_ret;exact⟨A.2.trans C,a,cap,acc,j3,a2,z,a5,(Z.kp C D D).Dp,F.stop nofun G,E⟩
def uB:List Fr:=fk.map .string
theorem oO(w:Fk):Jq prog 165 #[] w fun e w'=>∃g,e= .returned (.slice (some (ad g 0)) 16 16)/\w.1.size<=g/\ak w' g 9 uB/\bL w w':=by go_in;go_wp2;go_ret;refine⟨_,z,rl,Df _ _,(FB _ w).alloc rl _⟩
def cg(T:List Wd)(i:Nat):Nat:=if ba T i=3 then bQ (T.getD i default).text else 0
theorem oj(s:ByteArray)(k:Nat)(A:k<16)(F:1<=k):(decide (fk.getD k aq≠aq)&&decide (fk.getD k aq=s))=decide (bQ s=k):=by
 have E:∀a,a<16->∀c,c<16->fk.getD a aq≠aq->fk.getD a aq=fk.getD c aq->a=c:=by decide
 by_cases h:fk.getD k aq≠aq/\fk.getD k aq=s
 .have:bQ s=k:=by
   unfold bQ;rcases hf:(GU 16).find? fun k=>decide (fk.getD k aq≠aq)&&decide (fk.getD k aq=s) with _|j
   .have:=Hb.1 hf k (List.mem_range.2 A);rw[eP h.1,eP h.2]at this;exact absurd z this
   .have g:=He hf;have C:=Gl hf;simp only[FG,decide_eq_true_eq]at g;exact E j (by simpa using C) k A g.1 (g.2.trans h.2.symm)
  rw[this,eP h.1,eP h.2];simp
 .have:bQ s≠k:=by
   intro e;unfold bQ at e;rcases hf:(GU 16).find? fun k=>decide (fk.getD k aq≠aq)&&decide (fk.getD k aq=s) with _|j
   .rw[hf]at e;simp at e;omega
   .rw[hf]at e;have g:=He hf;simp only[FG,decide_eq_true_eq]at g;have D:=e;subst D;exact h g
  rw[dv this];by_cases w:fk.getD k aq≠aq
  .have:¬fk.getD k aq=s:=fun e=>h ⟨w,e⟩;rw[dv this,Bool.and_false]
  .rw[dv w,Bool.false_and]
theorem yj{T:List Wd}(k5:∀i,(T.getD i default).kind=4->bQ (T.getD i default).text=0)(_:i<=T.length)(k:Nat)(A:k<16)(C:1<=k):(decide (fk.getD k aq≠aq)&&cr T i (fk.getD k aq))=decide (cg T i=k):=by
 unfold cr cg ba;by_cases g:i<T.length
 .by_cases j:(T.getD i default).kind=3
  .simp only[g,j,decide_true,Gx,Bool.true_or,if_true];rw[<-oj _ k A C];congr 1;first|rfl| (exact decide_eq_decide.2 eq_comm)
  .rw[aD g,am j];by_cases w:(T.getD i default).kind=4
   .have D:=k5 i w;have:=oj (T.getD i default).text k A C;rw[D]at this;simp only[g,w,decide_true,Gx,Bool.or_true];rw[<-this];congr 1;first|rfl| (exact decide_eq_decide.2 eq_comm)
   .rw[dv j,dv w,dv (show ¬ (0=k) by omega)];simp
 .rw[dv g,am g,am (by decide),dv (show ¬ (0=k) by omega)];simp
theorem Ac(T:List Wd)(f i:Nat):pS T (f+1) i=if cg T i=0 then bU T (cB T i) i else if cg T i=5 then ap (pX T (i+1)) fun x j=>ap (pB T f j) fun b m=>some (.ok (aP 5 (cB T i) aq aq x aT b [],m))
  else if cg T i=4 then ap (pX T (i+1)) fun x j=>ap (pB T f j) fun b m=> if cr T m gB=true then ap (pB T f (m+1)) fun c n=>some (.ok (aP 4 (cB T i) aq aq x aT b c,n)) else some (.ok (aP 4 (cB T i) aq aq x aT b [],m))
  else aW T (cB T i) (cg T i) (i+1):=by
 rw[pS];unfold cg;by_cases g:ba T i=1
 .rw[aD g,am (show ¬ba T i=3 by rw[g];decide),aD z]
 .rw[am g];by_cases w:ba T i=3
  .rw[aD w];by_cases A:bQ (T.getD i default).text=0
   .rw[aD (.inr A),aD A];unfold bU aV;rw[am g];rfl
   .rw[am (fun e=>e.elim (fun e=>e w) A),am A]
  .rw[aD (.inl w),am w,aD rfl];unfold bU aV;rw[am g];rfl
structure Ds (w:Fk) (b sb:Nat) (S:bp) (V:Fk) (j:Nat) (bd:Bool) (st:St):Prop where
 s:Sb (w.1.size+1) V sb st
 r:Dr V b S j bd
 p:Kp w V b b
 z:ak V w.1.size 60 fW.toList
 o:∃k0 b0,Dr w b S k0 b0
 B:w.1.size+1<=sb
section
variable {w V V':Fk} {b sb j j':Nat} {S:bp} {bd bd':Bool} {st:St}
theorem Ds.blt(h:Ds w b sb S V j bd st):b<w.1.size:=by
 let ⟨A,b0,g⟩:=h.o
 exact g.lt
theorem Ds.call(h:Ds w b sb S V j bd st)(g:Kp V V' b b)(A:Dr V' b S j' bd'):Ds w b sb S V' j' bd' st:=
 ⟨h.s.kp g (by have:=h.blt;omega) h.B,A,h.p.trans g,h.z.kp g (by have:=h.blt;omega) (by have:=h.blt;omega),h.o,h.B⟩
theorem Ds.write(h:Ds w b sb S V j bd st)(D:Sb (w.1.size+1) V' sb B0)(A:Kp w V' b b)(C:∀c,c≠sb->V'.1[c]? =V.1[c]?):Ds w b sb S V' j bd B0:=by
 let ⟨F,b0,g⟩:=h.o
 have G:=g.lt;have E:=h.B;exact⟨D,g.fin h.r A (C b (by omega)),A,h.z.of (C _ (by omega)),h.o,h.B⟩
theorem Ds.DL(h:Ds w b sb S V j bd st)(n:Nat)(u:Fr)(g:Sb (w.1.size+1) (V.setCell (ad sb n) u) sb B0):Ds w b sb S (V.setCell (ad sb n) u) j bd B0:=
 h.write g (h.p.R (by have:=h.B;omega) n u) (fun c A=>FK V (ad sb n) u c A)
theorem Ds.EM(h:Ds w b sb S V j bd st)(n:Nat)(g:List Fr)(A:Sb (w.1.size+1) (V.setCells sb n g) sb B0):Ds w b sb S (V.setCells sb n g) j bd B0:=
 h.write A (Kp.Dn (by have:=h.B;omega) g n h.p) (fun c C=>au C g n V)
theorem Ds.kind(h:Ds w b sb S V j bd st)(q:Int):Ds w b sb S (V.setCell (ad sb 0) (I q)) j bd (st.setKind q):=h.DL 0 _ (h.s.kind q)
theorem Ds.name(h:Ds w b sb S V j bd st)(q:ByteArray):Ds w b sb S (V.setCell (ad sb 3) (.string q)) j bd (st.setName q):=h.DL 3 _ (h.s.name q)
theorem Ds.wth(h:Ds w b sb S V j bd st)(q:ByteArray):Ds w b sb S (V.setCell (ad sb 4) (.string q)) j bd (st.DH q):=h.DL 4 _ (h.s.wth q)
theorem Ds.expr(h:Ds w b sb S V j bd st){x:Ex}(g:ExL (fun c=>w.1.size+1<=c/\c≠sb) V l2 x):Ds w b sb S (V.setCells sb 5 l2) j bd (st.Dh x):=h.EM 5 l2 (h.s.expr g)
theorem Ds.index(h:Ds w b sb S V j bd st){x:Ex}(g:ExL (fun c=>w.1.size+1<=c/\c≠sb) V l2 x):Ds w b sb S (V.setCells sb 12 l2) j bd (st.setIndex x):=h.EM 12 l2 (h.s.index g)
theorem Ds.body(h:Ds w b sb S V j bd st)(C:aF T0.length g)(A:aE (fun c=>w.1.size+1<=c/\c≠sb) V a0 0 T0):Ds w b sb S (V.setCell (ad sb 19) (.slice a0 T0.length g)) j bd (st.setBody T0):=h.DL 19 _ (h.s.body C A)
theorem Ds.els(h:Ds w b sb S V j bd st)(C:aF T0.length g)(A:aE (fun c=>w.1.size+1<=c/\c≠sb) V a0 0 T0):Ds w b sb S (V.setCell (ad sb 20) (.slice a0 T0.length g)) j bd (st.DW T0):=h.DL 20 _ (h.s.els C A)
theorem Ds.step(h:Ds w b sb S V j bd st)(g:j<S.T.length):Ds w b sb S (V.setCell (ad b 1) (I ((j:Int)+1))) (j+1) bd st:=
 h.call ((Kp.refl V b b).Dg 1 _) (h.r.step g)
theorem Ds.part{cs:List Fr}{x:Ex}(h:Ds w b sb S V j bd st)(g:ExL (V.1.size<=·) V' cs x):ExL (fun c=>w.1.size+1<=c/\c≠sb) V' cs x:=
 ExL.CQ (fun c A=>by have E:=h.B;have C:=h.s.lt;have D:=A;exact⟨by omega,by omega⟩) g
theorem Ds.parts{l:List St}(h:Ds w b sb S V j bd st)(g:aE (V.1.size<=·) V' a 0 l):aE (fun c=>w.1.size+1<=c/\c≠sb) V' a 0 l:=
 aE.CQ (fun c A=>by have E:=h.B;have C:=h.s.lt;have D:=A;exact⟨by omega,by omega⟩) g
def St.kd:St->Int
 | .mk k _ _ _ _ _ _ _ _ _ _ _ _=>k
theorem St.EA{ok:Nat->Prop}{cs:List Fr}:∀ {s:St},bX ok W cs s->cs[0]? =some (I s.kd)
 | .mk k l c s t x y b e i sl ot lo,h=>by
  unfold bX at h
  obtain⟨C,g,a,D,cap,A,rfl,-⟩:=h
  rfl
theorem Ds.c0(h:Ds w b sb S V j bd st):V.cell? (ad sb 0)=some (I st.kd):=by
 let ⟨cs,A,g⟩:=h.s
 exact(A.cell 0).trans (St.EA g)
theorem Ds.told{R:PR St}(h:Ds w b sb S V j bd st)(E:bj false k R st j bd):∃cs:List Fr,ak V sb 60 cs/\cs.length=25/\(∀v∈cs,v.oneCell'=true)/\ak (V.setCells w.1.size 0 cs) w.1.size 60 cs/\mY w b S k R (.returned (.agg cs.toArray)) (V.setCells w.1.size 0 cs):=by
 let ⟨cs,G,g⟩:=h.s
 let ⟨J,b0,F⟩:=h.o
 have D:=g.cells.1;have K:=h.blt;have C:=Kp.Dn (FL w.1.size) cs 0 h.p;refine⟨cs,G,D,g.cells.2,h.z.DK (by rw[D];rfl),C,cs,st,j,bd,rfl,?_,E,F.fin h.r C (au (by omega) cs 0 V)⟩;refine bX.CQ (fun c A=> (by have:=A.1;omega:w.1.size<=c)) (bX.keep (fun c o v A H=>?_) g);rw[<-H];simp[FI,au (w:=V) (vs:=cs) (o:=0) (show c≠w.1.size by have:=A.1;omega)]
end
theorem bj.from{w:Type}{R:PR w}{x:w}(h:bj false k R x j z0):bj false g R x j z0:=by
 rcases h with ⟨h,-⟩|h|h
 .cases h
 .exact .inr (.inl h)
 .exact .inr (.inr h)
theorem jl(T:List Wd)(g:i<=T.length):pE T (4*T.length+4) 1 i≠none:=by obtain⟨R,h,-⟩:=dz T g;unfold pX at h;rw[h];exact fun e=>by cases e
def Jp:Nat->Code->Code
 |0,c=>c
 |n+1,.seq _ c=>Jp n c
 |_,c=>c
theorem BY(T:List Wd)(p:Int×Int)(i:Nat):aW T p 14 i=ap (aU T aI i) fun _ j=>some (.ok (aP 14 p aq aq aT aT [] [],j)):=rfl
theorem Br(T:List Wd)(p:Int×Int)(i:Nat):aW T p 15 i=ap (pX T i) fun x j=>ap (aU T aI j) fun _ m=>some (.ok (aP 15 p aq aq x aT [] [],m)):=rfl
theorem Cy(T:List Wd)(p:Int×Int)(i:Nat):aW T p 1 i=ap (aV T i) fun s j=>ap (aU T iE j) fun _ m=>ap (pX T m) fun x n=>ap (aU T aI n) fun _ q=>some (.ok (aP 1 p s aq x aT [] [],q)):=rfl
theorem Bp(T:List Wd)(p:Int×Int)(i:Nat):aW T p 11 i=ap (aV T i) fun s j=>ap (pX T j) fun x m=>ap (aU T aI m) fun _ q=>some (.ok (aP 11 p s aq x aT [] [],q)):=rfl
theorem CD(T:List Wd)(p:Int×Int)(i:Nat):aW T p 8 i=ap (aV T i) fun s j=>ap (aV T j) fun t m=>ap (aU T aI m) fun _ q=>some (.ok (aP 8 p s t aT aT [] [],q)):=rfl
theorem Bn(T:List Wd)(p:Int×Int)(i:Nat):aW T p 12 i=ap (aV T i) fun s j=>ap (aV T j) fun t m=>ap (aU T aI m) fun _ q=>some (.ok (aP 12 p s t aT aT [] [],q)):=rfl
theorem Ct(T:List Wd)(p:Int×Int)(i:Nat):aW T p 6 i=ap (aV T i) fun s j=>ap (aU T aI j) fun _ q=>some (.ok (aP 6 p s aq aT aT [] [],q)):=rfl
theorem CG(T:List Wd)(p:Int×Int)(i:Nat):aW T p 7 i=ap (aV T i) fun s j=>ap (aU T aI j) fun _ q=>some (.ok (aP 7 p s aq aT aT [] [],q)):=rfl
theorem CL(T:List Wd)(p:Int×Int)(i:Nat):aW T p 9 i=ap (aV T i) fun s j=>ap (aU T aI j) fun _ q=>some (.ok (aP 9 p s aq aT aT [] [],q)):=rfl
theorem Ck(T:List Wd)(p:Int×Int)(i:Nat):aW T p 10 i=ap (aV T i) fun s j=>ap (aU T aI j) fun _ q=>some (.ok (aP 10 p s aq aT aT [] [],q)):=rfl
theorem BF(T:List Wd)(p:Int×Int)(i:Nat):aW T p 13 i=ap (aV T i) fun s j=>ap (aU T aI j) fun _ q=>some (.ok (aP 13 p s aq aT aT [] [],q)):=rfl
theorem BW{sb:Nat}(X:k<S.T.length)(h:Ds w b sb S W k false (aP 14 (p0,p1) aq aq aT aT [] []))(hU:l2.length=109:=by rfl):
  FR prog (Jp 4 (f135.body.getD .skip)) (Gb prog f135 (mY w b S k (aW S.T (p0,p1) 14 (k+1)))) ⟨(Pt b::v0::Pt w.1.size::Pt sb::l2).toArray,[]⟩ W:=by
 revert l2;apply aN;iterate 109 intro _
 change FR _ _ _ _ _;let ⟨a1,H,J⟩:=cv
 conv in (Jp _ _)=>whnf
 have a4:=h.r.mx;have a2:(k:Int)<1000000:=by omega
 have c0:=h.c0;have c1:=h.r.c1;have f1:=h.r.hd.frozen 1;have a3:sb≠b:=by have:=h.B;have:=h.blt;omega
 have K:=h.step X;have g:=O K;clear h K;have N:(aP 14 (p0,p1) aq aq aT aT [] []).kd=14:=z;rw[N]at c0;clear N;go_wp2_with fail;clear c0 c1 f1;generalize W.setCell (ad b 1) (I ((k:Int)+1))=V1 at *;obtain j:=g.o;clear g;apply (aQ j.r aI).mono;rintro e W2 ⟨R,rfl,Z,b2,a0,M⟩;have g:=O (j.call R M);obtain C:=g.o;have D:bj false k (aW S.T (p0,p1) 14 (k+1)) (aP 14 (p0,p1) aq aq aT aT [] []) Z b2:=by rw[BY];refine bj.from (k:=k+1) (a0.bind (bj.pure _ _ _))
 let ⟨cs,U,A,Y,G,F⟩:=C.told D
 have Q:=O C.z;have V:=O U;have E:=O (EQ G F);go_wp2_with (first| (with_reducible refine s0 60 ?_;refine ab ar z (.tmp 2) (.tmp 112) z w.1.size cs fW.toList z z Q z A Y ?_)| (with_reducible refine l0 60 ?_;refine ac H J ar z (.tmp 3) z sb cs z V A ?_));exact aC H J ar E.1 A z z z E.2
theorem Bj{sb:Nat}(hk:k<S.T.length)(h:Ds w b sb S W k false (aP 15 (p0,p1) aq aq aT aT [] []))(hU:l2.length=109:=by rfl):
  FR prog (Jp 4 (f135.body.getD .skip)) (Gb prog f135 (mY w b S k (aW S.T (p0,p1) 15 (k+1)))) ⟨(Pt b::v0::Pt w.1.size::Pt sb::l2).toArray,[]⟩ W:=by
 revert l2;apply aN;iterate 109 intro _
 change FR _ _ _ _ _;let ⟨a8,J,M⟩:=cv
 conv in (Jp _ _)=>whnf
 have b5:=h.r.mx;have a9:(k:Int)<1000000:=by omega
 have c0:=h.c0;have c1:=h.r.c1;have f1:=h.r.hd.frozen 1;have b4:sb≠b:=by have:=h.B;have:=h.blt;omega
 have Q:=h.step hk;have g:=O Q;clear h Q;have N:(aP 15 (p0,p1) aq aq aT aT [] []).kd=15:=z;rw[N]at c0;clear N;go_wp2_with fail;clear c0 c1 f1;generalize W.setCell (ad b 1) (I ((k:Int)+1))=V1 at *;obtain j:=g.o;clear g;have b7:=jl S.T j.r.le;have R:=dM b S (4*S.T.length+4) _ _ 1 _ (by decide) (by decide) j.r (fun _=>b7);apply R.mono;rintro e W2 ⟨a1,a2,x2,j2,b2,rfl,a0,a6,b6⟩;have E:=j.call a1 b6;have A:=j.part a0;have a7:=dV (E.s.there (o:=5) (n:=7) (by decide)) A.cells.1 A.cells.2;have a3:=A.cells.1;have g:=O (E.expr A);go_wp2_with fail;generalize W2.setCells sb 5 a2=V2 at *;obtain F:=g.o;apply (aQ F.r aI).mono;rintro e W3 ⟨H,rfl,j3,b3,a5,X⟩;have g:=O (F.call H X);obtain D:=g.o
 have G:bj false k (aW S.T (p0,p1) 15 (k+1)) ((aP 15 (p0,p1) aq aq aT aT [] []).Dh x2) j3 b3:=by rw[Br];refine bj.from (k:=k+1) (a6.bind (a5.bind (bj.pure _ _ _)))
 let ⟨cs,hb,C,a4,Z,Y⟩:=D.told G
 have V:=O D.z;have U:=O hb;have K:=O (EQ Z Y);go_wp2_with (first| (with_reducible refine s0 60 ?_;refine ab ar z (.tmp 2) (.tmp 112) z w.1.size cs fW.toList z z V z C a4 ?_)| (with_reducible refine l0 60 ?_;refine ac J M ar z (.tmp 3) z sb cs z U C ?_));exact aC J M ar K.1 C z z z K.2
theorem uE{sb:Nat}(hk:k<S.T.length)(h:Ds w b sb S W k false (aP 1 (p0,p1) aq aq aT aT [] []))(hU:l2.length=109:=by rfl):
  FR prog (Jp 4 (f135.body.getD .skip)) (Gb prog f135 (mY w b S k (aW S.T (p0,p1) 1 (k+1)))) ⟨(Pt b::v0::Pt w.1.size::Pt sb::l2).toArray,[]⟩ W:=by
 revert l2;apply aN;iterate 109 intro _
 change FR _ _ _ _ _;let ⟨c8,Q,U⟩:=cv
 conv in (Jp _ _)=>whnf
 have d1:=h.r.mx;have c9:(k:Int)<1000000:=by omega
 have c0:=h.c0;have c1:=h.r.c1;have f1:=h.r.hd.frozen 1;have d0:sb≠b:=by have:=h.B;have:=h.blt;omega
 have X:=h.step hk;have g:=O X;clear h X;have V:(aP 1 (p0,p1) aq aq aT aT [] []).kd=1:=z;rw[V]at c0;clear V;go_wp2_with fail;clear c0 c1 f1;generalize W.setCell (ad b 1) (I ((k:Int)+1))=V1 at *;obtain E:=g.o;clear g;apply (bF E.r).mono;rintro e W2 ⟨a5,F,j2,b2,rfl,b7,r2⟩;have D:=E.call a5 r2;let ⟨v3,c3⟩:=D.s.cell (j:=3) (by decide)
 have f3:=D.s.frozen 3;have g:=O (D.name F);go_wp2_with fail;generalize W2.setCell (ad sb 3) (.string F)=V2 at *;obtain N:=g.o;apply (aQ N.r iE).mono;rintro e W3 ⟨d3,rfl,j3,b3,b6,r3⟩;have g:=O (N.call d3 r3);go_wp2_with fail;obtain C:=g.o;have a0:=jl S.T C.r.le;have a1:=dM b S (4*S.T.length+4) _ _ 1 _ (by decide) (by decide) C.r (fun _=>a0);apply a1.mono;rintro e W4 ⟨R,a9,x4,j4,b4,rfl,a2,b8,r4⟩;have M:=C.call R r4;have A:=C.part a2;have b9:=dV (M.s.there (o:=5) (n:=7) (by decide)) A.cells.1 A.cells.2;have a8:=A.cells.1;have g:=O (M.expr A);go_wp2_with fail;generalize W4.setCells sb 5 a9=V4 at *;obtain K:=g.o;apply (aQ K.r aI).mono;rintro e W5 ⟨a4,rfl,j5,b5,a6,r5⟩;have g:=O (K.call a4 r5)
 obtain H:=g.o;have d2:bj false k (aW S.T (p0,p1) 1 (k+1)) (((aP 1 (p0,p1) aq aq aT aT [] []).setName F).Dh x4) j5 b5:=by rw[Cy];refine bj.from (k:=k+1) (b7.bind (b6.bind (b8.bind (a6.bind (bj.pure _ _ _)))))
 let ⟨cs,hb,G,a7,d5,d4⟩:=H.told d2
 have Z:=O H.z;have Y:=O hb;have J:=O (EQ d5 d4);go_wp2_with (first| (with_reducible refine s0 60 ?_;refine ab ar z (.tmp 2) (.tmp 112) z w.1.size cs fW.toList z z Z z G a7 ?_)| (with_reducible refine l0 60 ?_;refine ac Q U ar z (.tmp 3) z sb cs z Y G ?_));exact aC Q U ar J.1 G z z z J.2
theorem BU{sb:Nat}(hk:k<S.T.length)(h:Ds w b sb S W k false (aP 11 (p0,p1) aq aq aT aT [] []))(hU:l2.length=109:=by rfl):
  FR prog (Jp 4 (f135.body.getD .skip)) (Gb prog f135 (mY w b S k (aW S.T (p0,p1) 11 (k+1)))) ⟨(Pt b::v0::Pt w.1.size::Pt sb::l2).toArray,[]⟩ W:=by
 revert l2;apply aN;iterate 109 intro _
 change FR _ _ _ _ _;let ⟨b6,Q,U⟩:=cv
 conv in (Jp _ _)=>whnf
 have b9:=h.r.mx;have b7:(k:Int)<1000000:=by omega
 have c0:=h.c0;have c1:=h.r.c1;have f1:=h.r.hd.frozen 1;have b8:sb≠b:=by have:=h.B;have:=h.blt;omega
 have X:=h.step hk;have g:=O X;clear h X;have V:(aP 11 (p0,p1) aq aq aT aT [] []).kd=11:=z;rw[V]at c0;clear V;go_wp2_with fail;clear c0 c1 f1;generalize W.setCell (ad b 1) (I ((k:Int)+1))=V1 at *;obtain E:=g.o;clear g;apply (bF E.r).mono;rintro e W2 ⟨a3,G,j2,b2,rfl,a9,r2⟩;have D:=E.call a3 r2;let ⟨v3,c3⟩:=D.s.cell (j:=3) (by decide)
 have f3:=D.s.frozen 3;have g:=O (D.name G);go_wp2_with fail;generalize W2.setCell (ad sb 3) (.string G)=V2 at *;obtain C:=g.o;have a1:=jl S.T C.r.le;have a2:=dM b S (4*S.T.length+4) _ _ 1 _ (by decide) (by decide) C.r (fun _=>a1);apply a2.mono;rintro e W3 ⟨c8,a5,x3,j3,b3,rfl,d1,a8,r3⟩;have N:=C.call c8 r3;have A:=C.part d1;have a4:=dV (N.s.there (o:=5) (n:=7) (by decide)) A.cells.1 A.cells.2;have a7:=A.cells.1;have g:=O (N.expr A);go_wp2_with fail;generalize W3.setCells sb 5 a5=V3 at *;obtain F:=g.o;apply (aQ F.r aI).mono;rintro e W4 ⟨c9,rfl,j4,b4,b5,r4⟩;have g:=O (F.call c9 r4);obtain K:=g.o
 have M:bj false k (aW S.T (p0,p1) 11 (k+1)) (((aP 11 (p0,p1) aq aq aT aT [] []).setName G).Dh x3) j4 b4:=by rw[Bp];refine bj.from (k:=k+1) (a9.bind (a8.bind (b5.bind (bj.pure _ _ _))))
 let ⟨cs,hb,H,a6,d0,R⟩:=K.told M
 have Z:=O K.z;have Y:=O hb;have J:=O (EQ d0 R);go_wp2_with (first| (with_reducible refine s0 60 ?_;refine ab ar z (.tmp 2) (.tmp 112) z w.1.size cs fW.toList z z Z z H a6 ?_)| (with_reducible refine l0 60 ?_;refine ac Q U ar z (.tmp 3) z sb cs z Y H ?_));exact aC Q U ar J.1 H z z z J.2
theorem Cs{sb:Nat}(hk:k<S.T.length)(h:Ds w b sb S W k false (aP 8 (p0,p1) aq aq aT aT [] []))(hU:l2.length=109:=by rfl):
  FR prog (Jp 4 (f135.body.getD .skip)) (Gb prog f135 (mY w b S k (aW S.T (p0,p1) 8 (k+1)))) ⟨(Pt b::v0::Pt w.1.size::Pt sb::l2).toArray,[]⟩ W:=by
 revert l2;apply aN;iterate 109 intro _
 change FR _ _ _ _ _;let ⟨a6,N,U⟩:=cv
 conv in (Jp _ _)=>whnf
 have a9:=h.r.mx;have a7:(k:Int)<1000000:=by omega
 have c0:=h.c0;have c1:=h.r.c1;have f1:=h.r.hd.frozen 1;have a8:sb≠b:=by have:=h.B;have:=h.blt;omega
 have X:=h.step hk;have g:=O X;clear h X;have V:(aP 8 (p0,p1) aq aq aT aT [] []).kd=8:=z;rw[V]at c0;clear V;go_wp2_with fail;clear c0 c1 f1;generalize W.setCell (ad b 1) (I ((k:Int)+1))=V1 at *;obtain D:=g.o;clear g;apply (bF D.r).mono;rintro e W2 ⟨a1,G,j2,b2,rfl,a4,r2⟩;have C:=D.call a1 r2;let ⟨v3,c3⟩:=C.s.cell (j:=3) (by decide)
 have f3:=C.s.frozen 3;have g:=O (C.name G);go_wp2_with fail;generalize W2.setCell (ad sb 3) (.string G)=V2 at *;obtain K:=g.o;apply (bF K.r).mono;rintro e W3 ⟨b5,F,j3,b3,rfl,a3,r3⟩;have A:=K.call b5 r3;let ⟨v4,c4⟩:=A.s.cell (j:=4) (by decide)
 have f4:=A.s.frozen 4;have g:=O (A.wth F);go_wp2_with fail;generalize W3.setCell (ad sb 4) (.string F)=V3 at *;obtain E:=g.o;apply (aQ E.r aI).mono;rintro e W4 ⟨b6,rfl,j4,b4,a5,r4⟩;have g:=O (E.call b6 r4);obtain J:=g.o;have M:bj false k (aW S.T (p0,p1) 8 (k+1)) (((aP 8 (p0,p1) aq aq aT aT [] []).setName G).DH F) j4 b4:=by rw[CD];refine bj.from (k:=k+1) (a4.bind (a3.bind (a5.bind (bj.pure _ _ _))))
 let ⟨cs,hb,H,a2,b7,R⟩:=J.told M
 have Z:=O J.z;have Y:=O hb;have Q:=O (EQ b7 R);go_wp2_with (first| (with_reducible refine s0 60 ?_;refine ab ar z (.tmp 2) (.tmp 112) z w.1.size cs fW.toList z z Z z H a2 ?_)| (with_reducible refine l0 60 ?_;refine ac N U ar z (.tmp 3) z sb cs z Y H ?_));exact aC N U ar Q.1 H z z z Q.2
theorem Bf{sb:Nat}(hk:k<S.T.length)(h:Ds w b sb S W k false (aP 12 (p0,p1) aq aq aT aT [] []))(hU:l2.length=109:=by rfl):
  FR prog (Jp 4 (f135.body.getD .skip)) (Gb prog f135 (mY w b S k (aW S.T (p0,p1) 12 (k+1)))) ⟨(Pt b::v0::Pt w.1.size::Pt sb::l2).toArray,[]⟩ W:=by
 revert l2;apply aN;iterate 109 intro _
 change FR _ _ _ _ _;let ⟨a6,N,U⟩:=cv
 conv in (Jp _ _)=>whnf
 have a9:=h.r.mx;have a7:(k:Int)<1000000:=by omega
 have c0:=h.c0;have c1:=h.r.c1;have f1:=h.r.hd.frozen 1;have a8:sb≠b:=by have:=h.B;have:=h.blt;omega
 have X:=h.step hk;have g:=O X;clear h X;have V:(aP 12 (p0,p1) aq aq aT aT [] []).kd=12:=z;rw[V]at c0;clear V;go_wp2_with fail;clear c0 c1 f1;generalize W.setCell (ad b 1) (I ((k:Int)+1))=V1 at *;obtain D:=g.o;clear g;apply (bF D.r).mono;rintro e W2 ⟨a1,G,j2,b2,rfl,a4,r2⟩;have C:=D.call a1 r2;let ⟨v3,c3⟩:=C.s.cell (j:=3) (by decide)
 have f3:=C.s.frozen 3;have g:=O (C.name G);go_wp2_with fail;generalize W2.setCell (ad sb 3) (.string G)=V2 at *;obtain K:=g.o;apply (bF K.r).mono;rintro e W3 ⟨b5,F,j3,b3,rfl,a3,r3⟩;have A:=K.call b5 r3;let ⟨v4,c4⟩:=A.s.cell (j:=4) (by decide)
 have f4:=A.s.frozen 4;have g:=O (A.wth F);go_wp2_with fail;generalize W3.setCell (ad sb 4) (.string F)=V3 at *;obtain E:=g.o;apply (aQ E.r aI).mono;rintro e W4 ⟨b6,rfl,j4,b4,a5,r4⟩;have g:=O (E.call b6 r4);obtain J:=g.o;have M:bj false k (aW S.T (p0,p1) 12 (k+1)) (((aP 12 (p0,p1) aq aq aT aT [] []).setName G).DH F) j4 b4:=by rw[Bn];refine bj.from (k:=k+1) (a4.bind (a3.bind (a5.bind (bj.pure _ _ _))))
 let ⟨cs,hb,H,a2,b7,R⟩:=J.told M
 have Z:=O J.z;have Y:=O hb;have Q:=O (EQ b7 R);go_wp2_with (first| (with_reducible refine s0 60 ?_;refine ab ar z (.tmp 2) (.tmp 112) z w.1.size cs fW.toList z z Z z H a2 ?_)| (with_reducible refine l0 60 ?_;refine ac N U ar z (.tmp 3) z sb cs z Y H ?_));exact aC N U ar Q.1 H z z z Q.2
theorem BL{sb:Nat}(hk:k<S.T.length)(h:Ds w b sb S W k false (aP 6 (p0,p1) aq aq aT aT [] []))(hU:l2.length=109:=by rfl):
  FR prog (Jp 4 (f135.body.getD .skip)) (Gb prog f135 (mY w b S k (aW S.T (p0,p1) 6 (k+1)))) ⟨(Pt b::v0::Pt w.1.size::Pt sb::l2).toArray,[]⟩ W:=by
 revert l2;apply aN;iterate 109 intro _
 change FR _ _ _ _ _;let ⟨a4,R,K⟩:=cv
 conv in (Jp _ _)=>whnf
 have a7:=h.r.mx;have a5:(k:Int)<1000000:=by omega
 have c0:=h.c0;have c1:=h.r.c1;have f1:=h.r.hd.frozen 1;have a6:sb≠b:=by have:=h.B;have:=h.blt;omega
 have N:=h.step hk;have g:=O N;clear h N;have Q:(aP 6 (p0,p1) aq aq aT aT [] []).kd=6:=z;rw[Q]at c0;clear Q;go_wp2_with fail;clear c0 c1 f1;generalize W.setCell (ad b 1) (I ((k:Int)+1))=V1 at *;obtain C:=g.o;clear g;apply (bF C.r).mono;rintro e W2 ⟨a0,D,j2,b2,rfl,a3,a8⟩;have A:=C.call a0 a8;let ⟨v3,c3⟩:=A.s.cell (j:=3) (by decide)
 have f3:=A.s.frozen 3;have g:=O (A.name D);go_wp2_with fail;generalize W2.setCell (ad sb 3) (.string D)=V2 at *;obtain G:=g.o;apply (aQ G.r aI).mono;rintro e W3 ⟨Y,rfl,j3,b3,a2,X⟩;have g:=O (G.call Y X);obtain F:=g.o;have H:bj false k (aW S.T (p0,p1) 6 (k+1)) ((aP 6 (p0,p1) aq aq aT aT [] []).setName D) j3 b3:=by rw[Ct];refine bj.from (k:=k+1) (a3.bind (a2.bind (bj.pure _ _ _)))
 let ⟨cs,hb,E,a1,Z,M⟩:=F.told H
 have V:=O F.z;have U:=O hb;have J:=O (EQ Z M);go_wp2_with (first| (with_reducible refine s0 60 ?_;refine ab ar z (.tmp 2) (.tmp 112) z w.1.size cs fW.toList z z V z E a1 ?_)| (with_reducible refine l0 60 ?_;refine ac R K ar z (.tmp 3) z sb cs z U E ?_));exact aC R K ar J.1 E z z z J.2
theorem CI{sb:Nat}(hk:k<S.T.length)(h:Ds w b sb S W k false (aP 7 (p0,p1) aq aq aT aT [] []))(hU:l2.length=109:=by rfl):
  FR prog (Jp 4 (f135.body.getD .skip)) (Gb prog f135 (mY w b S k (aW S.T (p0,p1) 7 (k+1)))) ⟨(Pt b::v0::Pt w.1.size::Pt sb::l2).toArray,[]⟩ W:=by
 revert l2;apply aN;iterate 109 intro _
 change FR _ _ _ _ _;let ⟨a4,R,K⟩:=cv
 conv in (Jp _ _)=>whnf
 have a7:=h.r.mx;have a5:(k:Int)<1000000:=by omega
 have c0:=h.c0;have c1:=h.r.c1;have f1:=h.r.hd.frozen 1;have a6:sb≠b:=by have:=h.B;have:=h.blt;omega
 have N:=h.step hk;have g:=O N;clear h N;have Q:(aP 7 (p0,p1) aq aq aT aT [] []).kd=7:=z;rw[Q]at c0;clear Q;go_wp2_with fail;clear c0 c1 f1;generalize W.setCell (ad b 1) (I ((k:Int)+1))=V1 at *;obtain C:=g.o;clear g;apply (bF C.r).mono;rintro e W2 ⟨a0,D,j2,b2,rfl,a3,a8⟩;have A:=C.call a0 a8;let ⟨v3,c3⟩:=A.s.cell (j:=3) (by decide)
 have f3:=A.s.frozen 3;have g:=O (A.name D);go_wp2_with fail;generalize W2.setCell (ad sb 3) (.string D)=V2 at *;obtain G:=g.o;apply (aQ G.r aI).mono;rintro e W3 ⟨Y,rfl,j3,b3,a2,X⟩;have g:=O (G.call Y X);obtain F:=g.o;have H:bj false k (aW S.T (p0,p1) 7 (k+1)) ((aP 7 (p0,p1) aq aq aT aT [] []).setName D) j3 b3:=by rw[CG];refine bj.from (k:=k+1) (a3.bind (a2.bind (bj.pure _ _ _)))
 let ⟨cs,hb,E,a1,Z,M⟩:=F.told H
 have V:=O F.z;have U:=O hb;have J:=O (EQ Z M);go_wp2_with (first| (with_reducible refine s0 60 ?_;refine ab ar z (.tmp 2) (.tmp 112) z w.1.size cs fW.toList z z V z E a1 ?_)| (with_reducible refine l0 60 ?_;refine ac R K ar z (.tmp 3) z sb cs z U E ?_));exact aC R K ar J.1 E z z z J.2
theorem CM{sb:Nat}(hk:k<S.T.length)(h:Ds w b sb S W k false (aP 9 (p0,p1) aq aq aT aT [] []))(hU:l2.length=109:=by rfl):
  FR prog (Jp 4 (f135.body.getD .skip)) (Gb prog f135 (mY w b S k (aW S.T (p0,p1) 9 (k+1)))) ⟨(Pt b::v0::Pt w.1.size::Pt sb::l2).toArray,[]⟩ W:=by
 revert l2;apply aN;iterate 109 intro _
 change FR _ _ _ _ _;let ⟨a4,R,K⟩:=cv
 conv in (Jp _ _)=>whnf
 have a7:=h.r.mx;have a5:(k:Int)<1000000:=by omega
 have c0:=h.c0;have c1:=h.r.c1;have f1:=h.r.hd.frozen 1;have a6:sb≠b:=by have:=h.B;have:=h.blt;omega
 have N:=h.step hk;have g:=O N;clear h N;have Q:(aP 9 (p0,p1) aq aq aT aT [] []).kd=9:=z;rw[Q]at c0;clear Q;go_wp2_with fail;clear c0 c1 f1;generalize W.setCell (ad b 1) (I ((k:Int)+1))=V1 at *;obtain C:=g.o;clear g;apply (bF C.r).mono;rintro e W2 ⟨a0,D,j2,b2,rfl,a3,a8⟩;have A:=C.call a0 a8;let ⟨v3,c3⟩:=A.s.cell (j:=3) (by decide)
 have f3:=A.s.frozen 3;have g:=O (A.name D);go_wp2_with fail;generalize W2.setCell (ad sb 3) (.string D)=V2 at *;obtain G:=g.o;apply (aQ G.r aI).mono;rintro e W3 ⟨Y,rfl,j3,b3,a2,X⟩;have g:=O (G.call Y X);obtain F:=g.o;have H:bj false k (aW S.T (p0,p1) 9 (k+1)) ((aP 9 (p0,p1) aq aq aT aT [] []).setName D) j3 b3:=by rw[CL];refine bj.from (k:=k+1) (a3.bind (a2.bind (bj.pure _ _ _)))
 let ⟨cs,hb,E,a1,Z,M⟩:=F.told H
 have V:=O F.z;have U:=O hb;have J:=O (EQ Z M);go_wp2_with (first| (with_reducible refine s0 60 ?_;refine ab ar z (.tmp 2) (.tmp 112) z w.1.size cs fW.toList z z V z E a1 ?_)| (with_reducible refine l0 60 ?_;refine ac R K ar z (.tmp 3) z sb cs z U E ?_));exact aC R K ar J.1 E z z z J.2
theorem Cd{sb:Nat}(hk:k<S.T.length)(h:Ds w b sb S W k false (aP 10 (p0,p1) aq aq aT aT [] []))(hU:l2.length=109:=by rfl):
  FR prog (Jp 4 (f135.body.getD .skip)) (Gb prog f135 (mY w b S k (aW S.T (p0,p1) 10 (k+1)))) ⟨(Pt b::v0::Pt w.1.size::Pt sb::l2).toArray,[]⟩ W:=by
 revert l2;apply aN;iterate 109 intro _
 change FR _ _ _ _ _;let ⟨a4,R,K⟩:=cv
 conv in (Jp _ _)=>whnf
 have a7:=h.r.mx;have a5:(k:Int)<1000000:=by omega
 have c0:=h.c0;have c1:=h.r.c1;have f1:=h.r.hd.frozen 1;have a6:sb≠b:=by have:=h.B;have:=h.blt;omega
 have N:=h.step hk;have g:=O N;clear h N;have Q:(aP 10 (p0,p1) aq aq aT aT [] []).kd=10:=z;rw[Q]at c0;clear Q;go_wp2_with fail;clear c0 c1 f1;generalize W.setCell (ad b 1) (I ((k:Int)+1))=V1 at *;obtain C:=g.o;clear g;apply (bF C.r).mono;rintro e W2 ⟨a0,D,j2,b2,rfl,a3,a8⟩;have A:=C.call a0 a8;let ⟨v3,c3⟩:=A.s.cell (j:=3) (by decide)
 have f3:=A.s.frozen 3;have g:=O (A.name D);go_wp2_with fail;generalize W2.setCell (ad sb 3) (.string D)=V2 at *;obtain G:=g.o;apply (aQ G.r aI).mono;rintro e W3 ⟨Y,rfl,j3,b3,a2,X⟩;have g:=O (G.call Y X);obtain F:=g.o;have H:bj false k (aW S.T (p0,p1) 10 (k+1)) ((aP 10 (p0,p1) aq aq aT aT [] []).setName D) j3 b3:=by rw[Ck];refine bj.from (k:=k+1) (a3.bind (a2.bind (bj.pure _ _ _)))
 let ⟨cs,hb,E,a1,Z,M⟩:=F.told H
 have V:=O F.z;have U:=O hb;have J:=O (EQ Z M);go_wp2_with (first| (with_reducible refine s0 60 ?_;refine ab ar z (.tmp 2) (.tmp 112) z w.1.size cs fW.toList z z V z E a1 ?_)| (with_reducible refine l0 60 ?_;refine ac R K ar z (.tmp 3) z sb cs z U E ?_));exact aC R K ar J.1 E z z z J.2
theorem BR{sb:Nat}(hk:k<S.T.length)(h:Ds w b sb S W k false (aP 13 (p0,p1) aq aq aT aT [] []))(hU:l2.length=109:=by rfl):
  FR prog (Jp 4 (f135.body.getD .skip)) (Gb prog f135 (mY w b S k (aW S.T (p0,p1) 13 (k+1)))) ⟨(Pt b::v0::Pt w.1.size::Pt sb::l2).toArray,[]⟩ W:=by
 revert l2;apply aN;iterate 109 intro _
 change FR _ _ _ _ _;let ⟨a4,R,K⟩:=cv
 conv in (Jp _ _)=>whnf
 have a7:=h.r.mx;have a5:(k:Int)<1000000:=by omega
 have c0:=h.c0;have c1:=h.r.c1;have f1:=h.r.hd.frozen 1;have a6:sb≠b:=by have:=h.B;have:=h.blt;omega
 have N:=h.step hk;have g:=O N;clear h N;have Q:(aP 13 (p0,p1) aq aq aT aT [] []).kd=13:=z;rw[Q]at c0;clear Q;go_wp2_with fail;clear c0 c1 f1;generalize W.setCell (ad b 1) (I ((k:Int)+1))=V1 at *;obtain C:=g.o;clear g;apply (bF C.r).mono;rintro e W2 ⟨a0,D,j2,b2,rfl,a3,a8⟩;have A:=C.call a0 a8;let ⟨v3,c3⟩:=A.s.cell (j:=3) (by decide)
 have f3:=A.s.frozen 3;have g:=O (A.name D);go_wp2_with fail;generalize W2.setCell (ad sb 3) (.string D)=V2 at *;obtain G:=g.o;apply (aQ G.r aI).mono;rintro e W3 ⟨Y,rfl,j3,b3,a2,X⟩;have g:=O (G.call Y X);obtain F:=g.o;have H:bj false k (aW S.T (p0,p1) 13 (k+1)) ((aP 13 (p0,p1) aq aq aT aT [] []).setName D) j3 b3:=by rw[BF];refine bj.from (k:=k+1) (a3.bind (a2.bind (bj.pure _ _ _)))
 let ⟨cs,hb,E,a1,Z,M⟩:=F.told H
 have V:=O F.z;have U:=O hb;have J:=O (EQ Z M);go_wp2_with (first| (with_reducible refine s0 60 ?_;refine ab ar z (.tmp 2) (.tmp 112) z w.1.size cs fW.toList z z V z E a1 ?_)| (with_reducible refine l0 60 ?_;refine ac R K ar z (.tmp 3) z sb cs z U E ?_));exact aC R K ar J.1 E z z z J.2
theorem bj.ET{g:Type}{bad c:Bool}{D R2:PR g}{x:g}(w:(!bad&&c)=false)(h:bj bad k R2 x j z0):bj bad k (if c=true then D else R2) x j z0:=by
 cases bad
 .simp only[Hm,Gx]at w;rw[am (by rw[w];exact FY)];exact h
 .rcases h with ⟨-,C,A⟩|⟨h,-⟩|⟨h,-⟩
  .exact .inl ⟨z,C,A⟩
  .cases h
  .cases h
theorem bj.ES{A:Type}{bad c:Bool}{C R2:PR A}{x:A}(w:(!bad&&c)=true)(h:bj bad g C x j z0):bj bad k (if c=true then C else R2) x j z0:=by
 cases bad
 .simp only[Hm,Gx]at w;rw[aD w];exact h.from
 .cases w
theorem Cx{sb:Nat}(h:Ds w b sb S W k false (aP 0 (p0,p1) aq aq aT aT [] []))(hU:l2.length=109:=by rfl):
  FR prog (Jp 4 (f135.body.getD .skip)) (Gb prog f135 (mY w b S k (bU S.T (p0,p1) k))) ⟨(Pt b::v0::Pt w.1.size::Pt sb::l2).toArray,[]⟩ W:=by
 revert l2;apply aN;iterate 109 intro _
 change FR _ _ _ _ _;let ⟨f9,a0,a1⟩:=cv
 conv in (Jp _ _)=>whnf
 have f7:=h.r.mx;have f8:=h.r.le;have f5:(k:Int)<1000000+1:=by omega
 have c0:=h.c0;have e0:(aP 0 (p0,p1) aq aq aT aT [] []).kd=0:=z;rw[e0]at c0;clear e0;have f6:sb≠b:=by have:=h.B;have:=h.blt;omega
 have g:=O h;clear h;go_wp2_with fail;clear c0;obtain a3:=g.o;clear g;apply (bF a3.r).mono;rintro e W2 ⟨d1,x2,j2,b2,rfl,O2,r2⟩;have H:=a3.call d1 r2;clear a3 d1 r2;let ⟨v3,c3⟩:=H.s.cell (j:=3) (by decide)
 have f3:=H.s.frozen 3;let ⟨e8,c0⟩:=H.s.cell (j:=0) (by decide)
 have f0:=H.s.frozen 0;have g:=O ((H.name x2).kind 2);have d0:=O O2;clear H O2;go_wp2_with fail;clear c0 f0 c3 f3;generalize (W2.setCell (ad sb 3) (.string x2)).setCell (ad sb 0) (I 2)=V2 at *;obtain a8:=g.o;clear g;apply (dq a8.r ho).mono;rintro e W3 ⟨d4,rfl,r3⟩;let ⟨m,hm⟩:=eX ((!b2&&cr S.T j2 ho))
 rw[hm]at r3 ⊢;have D:=a8.call d4 r3;have HM:=O hm;clear a8 d4 r3 hm;cases m
 .simp only[FN,if_false]at D;have g:=O D;clear D;go_wp2_with fail;obtain C:=g.o;clear g;apply (aQ C.r iE).mono;rintro e W4 ⟨K,rfl,j4,b4,U,r4⟩;have g:=O (C.call K r4);have a2:=O U;clear C K r4 U;go_wp2_with fail;obtain A:=g.o;clear g;have d9:=jl S.T A.r.le;have d2:=dM b S (4*S.T.length+4) _ _ 1 _ (by decide) (by decide) A.r (fun _=>d9);apply d2.mono;rintro e W5 ⟨g1,f1,x5,j5,b5,rfl,a9,N,r5⟩;have q5:=A.call g1 r5;have y5:=A.part a9;clear A g1 r5 a9 d2 d9;have e4:=dV (q5.s.there (o:=5) (n:=7) (by decide)) y5.cells.1 y5.cells.2;have e9:=y5.cells.1;have g:=O (q5.expr y5);have a4:=O N;clear q5 N y5;go_wp2_with fail;clear e4 e9;generalize W5.setCells sb 5 f1=V5 at *;obtain E:=g.o;clear g
  apply (aQ E.r aI).mono;rintro e W6 ⟨g2,rfl,j6,b6,V,M⟩;have g:=O (E.call g2 M);have a5:=O V;clear E g2 M V;obtain G:=g.o;clear g;have hO:bj false k (bU S.T (p0,p1) k) (((aP 0 (p0,p1) aq aq aT aT [] []).setName x2).setKind 2|>.Dh x5) j6 b6:=by unfold bU;apply d0.bind;exact bj.ET HM (a2.bind (a4.bind (a5.bind (bj.pure _ _ _))))
  let ⟨cs,Q,F,a6,R,Y⟩:=G.told hO
  have HZ:=O G.z;have HB:=O Q;have J:=O (EQ R Y);clear G hO Q R Y;go_wp2_with (first| (with_reducible refine s0 60 ?_;refine ab ar z (.tmp 2) (.tmp 112) z w.1.size cs fW.toList z z HZ z F a6 ?_)| (with_reducible refine l0 60 ?_;refine ac a0 a1 ar z (.tmp 3) z sb cs z HB F ?_));exact aC a0 a1 ar J.1 F z z z J.2
 .simp only[if_true]at D;let ⟨e8,c0⟩:=D.s.cell (j:=0) (by decide)
  have f0:=D.s.frozen 0;have g:=O (D.kind 3);clear D;go_wp2_with fail;clear c0 f0;generalize W3.setCell (ad sb 0) (I 3)=V3 at *;obtain C:=g.o;clear g;have b9:=jl S.T C.r.le;have d5:=dM b S (4*S.T.length+4) _ _ 1 _ (by decide) (by decide) C.r (fun _=>b9);apply d5.mono;rintro e W4 ⟨K,e5,x4,j4,b4,rfl,d8,U,r4⟩;have q4:=C.call K r4;have Z:=C.part d8;clear C K r4 d8 d5 b9;have e3:=dV (q4.s.there (o:=12) (n:=7) (by decide)) Z.cells.1 Z.cells.2;have f2:=Z.cells.1;have g:=O (q4.index Z);have a2:=O U;clear q4 U Z;go_wp2_with fail;clear e3 f2;generalize W4.setCells sb 12 e5=V4 at *;obtain A:=g.o;clear g;apply (aQ A.r gx).mono;rintro e W5 ⟨g1,rfl,j5,b5,N,r5⟩;have g:=O (A.call g1 r5);have a4:=O N
  clear A g1 r5 N;go_wp2_with fail;obtain E:=g.o;clear g;apply (aQ E.r iE).mono;rintro e W6 ⟨g2,rfl,j6,b6,V,M⟩;have g:=O (E.call g2 M);have a5:=O V;clear E g2 M V;go_wp2_with fail;obtain g3:=g.o;clear g;have d6:=jl S.T g3.r.le;have c9:=dM b S (4*S.T.length+4) _ _ 1 _ (by decide) (by decide) g3.r (fun _=>d6);apply c9.mono;rintro e W7 ⟨d7,f4,x7,j7,b7,rfl,d3,O7,r7⟩;have q7:=g3.call d7 r7;have X:=g3.part d3;clear g3 d7 r7 d3 c9 d6;have e1:=dV (q7.s.there (o:=5) (n:=7) (by decide)) X.cells.1 X.cells.2;have e2:=X.cells.1;have g:=O (q7.expr X);have e6:=O O7;clear q7 O7 X;go_wp2_with fail;clear e1 e2;generalize W7.setCells sb 5 f4=V7 at *;obtain a7:=g.o;clear g;apply (aQ a7.r aI).mono
  rintro e W8 ⟨c8,rfl,j8,b8,O8,r8⟩;have g:=O (a7.call c8 r8);have e7:=O O8;clear a7 c8 r8 O8;obtain G:=g.o;clear g;have hO:bj false k (bU S.T (p0,p1) k) ((((aP 0 (p0,p1) aq aq aT aT [] []).setName x2).setKind 2).setKind 3|>.setIndex x4|>.Dh x7) j8 b8:=by unfold bU;apply d0.bind;exact bj.ES HM (a2.bind (a4.bind (a5.bind (e6.bind (e7.bind (bj.pure _ _ _))))))
  let ⟨cs,Q,F,a6,R,Y⟩:=G.told hO
  have HZ:=O G.z;have HB:=O Q;have J:=O (EQ R Y);clear G hO Q R Y;go_wp2_with (first| (with_reducible refine s0 60 ?_;refine ab ar z (.tmp 2) (.tmp 112) z w.1.size cs fW.toList z z HZ z F a6 ?_)| (with_reducible refine l0 60 ?_;refine ac a0 a1 ar z (.tmp 3) z sb cs z HB F ?_));exact aC a0 a1 ar J.1 F z z z J.2
theorem Ai{sb:Nat}{f:Nat}(hk:k<S.T.length)(hB:∀bd,DB b S f bd)(a2:(ap (pX S.T (k+1)) fun x j=>ap (pB S.T f j) fun bl m=>some (.ok (aP 5 (p0,p1) aq aq x aT bl [],m)))≠none)(h:Ds w b sb S W k false (aP 5 (p0,p1) aq aq aT aT [] []))(hU:l2.length=109:=by rfl):
  FR prog (Jp 4 (f135.body.getD .skip)) (Gb prog f135 (mY w b S k (ap (pX S.T (k+1)) fun x j=>ap (pB S.T f j) fun bl m=>some (.ok (aP 5 (p0,p1) aq aq x aT bl [],m))))) ⟨(Pt b::v0::Pt w.1.size::Pt sb::l2).toArray,[]⟩ W:=by
 revert l2;apply aN;iterate 109 intro _
 change FR _ _ _ _ _;have HN:=O a2;clear a2;let ⟨b7,U,a0⟩:=cv
 conv in (Jp _ _)=>whnf
 have d2:=h.r.mx;have d1:=h.r.le;have b9:(k:Int)<1000000:=by omega
 have c0:=h.c0;have e0:(aP 5 (p0,p1) aq aq aT aT [] []).kd=5:=z;rw[e0]at c0;clear e0;have c9:sb≠b:=by have:=h.B;have:=h.blt;omega
 have c1:=h.r.c1;have f1:=h.r.hd.frozen 1;have h1:=h.step hk;have g:=O h1;clear h h1;go_wp2_with fail;clear c0 c1 f1;generalize W.setCell ⟨b,1,none⟩ (I ((k:Int)+1))=V1 at *;obtain A:=g.o;clear g;have a4:=jl S.T A.r.le;have V:=dM b S (4*S.T.length+4) _ _ 1 _ (by decide) (by decide) A.r (fun _=>a4);refine V.mono ?_;rintro e W2 ⟨a7,a8,x2,j2,b2,rfl,a5,Q,r2⟩;have H:=A.call a7 r2;have C:=A.part a5;clear A a7 r2 a5 V a4;have b6:=dV (H.s.there (o:=5) (n:=7) (by decide)) C.cells.1 C.cells.2;have a9:=C.cells.1;have g:=O (H.expr C);have a6:=O Q;clear H Q C;go_wp2_with fail;clear b6 a9;generalize W2.setCells sb 5 a8=V2 at *;obtain E:=g.o;clear g;have Z:b2=false->pB S.T f j2≠none:=fun e hn=>by subst e;refine HN.o ?_;have e2:pX S.T (k+1)=some (.ok (x2,j2)):=a6.o.Eo.2;rw[e2,ay,hn];rfl
 refine(hB _ _ _ E.r Z).mono ?_;rintro e W3 ⟨K,a3,b8,l3,j3,b3,rfl,a1,X,R,r3⟩;have D:=E.call K r3;have y3:=E.parts X;let ⟨c8,c19⟩:=D.s.cell (j:=19) (by decide)
 have d0:=D.s.frozen 19;have g:=O (D.body a1 y3);have b5:=O R;clear D R y3 E K X r3 Z a1;obtain G:=g.o;clear g;have J:bj false k (ap (pX S.T (k+1)) fun x j=>ap (pB S.T f j) fun bl m=>some (.ok (aP 5 (p0,p1) aq aq x aT bl [],m))) (((aP 5 (p0,p1) aq aq aT aT [] []).Dh x2).setBody l3) j3 b3:=by refine bj.from (k:=k+1) (a6.bind (b5.bind (bj.pure _ _ _)))
 let ⟨cs,hb,F,b4,N,M⟩:=G.told J
 have HZ:=O G.z;have HB:=O hb;have Y:=O (EQ N M);clear G J hb N M;go_wp2_with (first| (with_reducible refine s0 60 ?_;refine ab ar z (.tmp 2) (.tmp 64) z w.1.size cs fW.toList z z HZ z F b4 ?_)| (with_reducible refine l0 60 ?_;refine ac U a0 ar z (.tmp 3) z sb cs z HB F ?_));exact aC U a0 ar Y.1 F z z z Y.2
theorem CH{sb:Nat}{f:Nat}(hk:k<S.T.length)(hB:∀bd,DB b S f bd)(c9:(ap (pX S.T (k+1)) fun x j=>ap (pB S.T f j) fun bl m=>if cr S.T m gB=true then ap (pB S.T f (m+1)) fun c n=>some (.ok (aP 4 (p0,p1) aq aq x aT bl c,n)) else some (.ok (aP 4 (p0,p1) aq aq x aT bl [],m)))≠none)(h:Ds w b sb S W k false (aP 4 (p0,p1) aq aq aT aT [] []))(hU:l2.length=109:=by rfl):
  FR prog (Jp 4 (f135.body.getD .skip)) (Gb prog f135 (mY w b S k (ap (pX S.T (k+1)) fun x j=>ap (pB S.T f j) fun bl m=>if cr S.T m gB=true then ap (pB S.T f (m+1)) fun c n=>some (.ok (aP 4 (p0,p1) aq aq x aT bl c,n)) else some (.ok (aP 4 (p0,p1) aq aq x aT bl [],m))))) ⟨(Pt b::v0::Pt w.1.size::Pt sb::l2).toArray,[]⟩ W:=by
 revert l2;apply aN;iterate 109 intro _
 change FR _ _ _ _ _;have HN:=O c9;clear c9;obtain⟨e6,Y,Z⟩:=cv;conv in (Jp _ _)=>whnf
 have e3:=h.r.mx;have e5:=h.r.le;have d7:(k:Int)<1000000:=by omega
 have c0:=h.c0;have e0:(aP 4 (p0,p1) aq aq aT aT [] []).kd=4:=z;rw[e0]at c0;clear e0;have e1:sb≠b:=by have:=h.B;have:=h.blt;omega
 have c1:=h.r.c1;have f1:=h.r.hd.frozen 1;have h1:=h.step hk;have g:=O h1;clear h h1;go_wp2_with fail;clear c0 c1 f1;generalize W.setCell ⟨b,1,none⟩ (I ((k:Int)+1))=V1 at *;obtain G:=g.o;clear g;have b6:=jl S.T G.r.le;have b9:=dM b S (4*S.T.length+4) _ _ 1 _ (by decide) (by decide) G.r (fun _=>b6);refine b9.mono ?_;rintro e W2 ⟨a9,d1,x2,j2,b2,rfl,d0,O2,r2⟩;have q2:=G.call a9 r2;have M:=G.part d0;clear G a9 r2 d0 b9 b6;have d3:=dV (q2.s.there (o:=5) (n:=7) (by decide)) M.cells.1 M.cells.2;have d6:=M.cells.1;have g:=O (q2.expr M);have V:=O O2;clear q2 O2 M;go_wp2_with fail;clear d3 d6;generalize W2.setCells sb 5 d1=V2 at *;obtain a0:=g.o;clear g;have H:b2=false->pB S.T f j2≠none:=fun e hn=>by subst e;refine HN.o ?_;have E:pX S.T (k+1)=some (.ok (x2,j2)):=V.o.Eo.2;rw[E,ay,hn];rfl
 refine(hB _ _ _ a0.r H).mono ?_;rintro e W3 ⟨b7,a3,d4,l3,j3,b3,rfl,c8,b4,O3,r3⟩;have R:=a0.call b7 r3;have y3:=a0.parts b4;obtain⟨d9,c19⟩:=R.s.cell (j:=19) (by decide);have d5:=R.s.frozen 19;have g:=O (R.body c8 y3);have a2:=O O3;clear R O3 y3 a0 b7 b4 r3 H c8;go_wp2_with fail;clear c19 d5;generalize W3.setCell ⟨sb,19,none⟩ (.slice a3 l3.length d4)=V3 at *;obtain a4:=g.o;clear g;refine(dq a4.r gB).mono ?_;rintro e W4 ⟨a6,rfl,r4⟩;obtain⟨m,hm⟩:=eX ((!b3&&cr S.T j3 gB));rw[hm]at r4 ⊢;have D:=a4.call a6 r4;have HM:=O hm;clear a4 a6 r4 hm;cases m
 .simp only[FN,if_false]at D;have g:=O D;clear D;obtain C:=g.o;clear g;have N:bj false k (ap (pX S.T (k+1)) fun x j=>ap (pB S.T f j) fun bl m=>if cr S.T m gB=true then ap (pB S.T f (m+1)) fun c n=>some (.ok (aP 4 (p0,p1) aq aq x aT bl c,n)) else some (.ok (aP 4 (p0,p1) aq aq x aT bl [],m))) (((aP 4 (p0,p1) aq aq aT aT [] []).Dh x2).setBody l3) j3 b3:=by refine bj.from (k:=k+1) (V.o.bind (a2.o.bind (bj.ET HM.o (bj.pure _ _ _))))
  obtain⟨cs,F,A,a1,K,J⟩:=C.told N;have HZ:=O C.z;have HB:=O F;have Q:=O (EQ K J);clear C N F K J;go_wp2_with (first| (with_reducible refine s0 60 ?_;refine ab ar z (.tmp 2) (.tmp 64) z w.1.size cs fW.toList z z HZ z A a1 ?_)| (with_reducible refine l0 60 ?_;refine ac Y Z ar z (.tmp 3) z sb cs z HB A ?_));exact aC Y Z ar Q.o.1 A z z z Q.o.2
 .simp only[if_true]at D;have g:=O D;clear D;go_wp2_with fail;obtain U:=g.o;clear g;have H:b3=false->pB S.T f (j3+1)≠none:=fun e hn=>by subst e;obtain⟨E,h3⟩:=a2.o.Eo;subst E;refine HN.o ?_;have E:pX S.T (k+1)=some (.ok (x2,j2)):=V.o.Eo.2;rw[E,ay,h3,ay,aD (by simpa using HM.o),hn];rfl
  refine(hB _ _ _ U.r H).mono ?_;rintro e W5 ⟨b8,a5,e7,l5,j5,b5,rfl,a8,a7,O5,r5⟩;have X:=U.call b8 r5;have y5:=U.parts a7;let ⟨e4,e8⟩:=X.s.cell (j:=20) (by decide)
  have d8:=X.s.frozen 20;have g:=O (X.els a8 y5);have d2:=O O5;clear X O5 y5 U b8 a7 r5 H a8;obtain C:=g.o;clear g;have N:bj false k (ap (pX S.T (k+1)) fun x j=>ap (pB S.T f j) fun bl m=>if cr S.T m gB=true then ap (pB S.T f (m+1)) fun c n=>some (.ok (aP 4 (p0,p1) aq aq x aT bl c,n)) else some (.ok (aP 4 (p0,p1) aq aq x aT bl [],m))) ((((aP 4 (p0,p1) aq aq aT aT [] []).Dh x2).setBody l3).DW l5) j5 b5:=by refine bj.from (k:=k+1) (V.bind (a2.bind (bj.ES HM (d2.bind (bj.pure _ _ _)))))
  let ⟨cs,F,A,a1,K,J⟩:=C.told N
  have HZ:=O C.z;have HB:=O F;have Q:=O (EQ K J);clear C N F K J;go_wp2_with (first| (with_reducible refine s0 60 ?_;refine ab ar z (.tmp 2) (.tmp 64) z w.1.size cs fW.toList z z HZ z A a1 ?_)| (with_reducible refine l0 60 ?_;refine ac Y Z ar z (.tmp 3) z sb cs z HB A ?_));exact aC Y Z ar Q.1 A z z z Q.2
end Go.Proofs.YtgppcdfgdaggjaaGreatDoor
