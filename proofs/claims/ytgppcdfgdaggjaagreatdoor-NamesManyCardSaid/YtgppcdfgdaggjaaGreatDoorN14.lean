/- Texts laid together. No condition but what each law says. -/
import Derived.Test.YtgppcdfgdaggjaaGreatDoorN13
import Derived.Deep.WholeRow
set_option maxRecDepth 100000
set_option maxHeartbeats 16000000
namespace Go.Proofs.YtgppcdfgdaggjaaGreatDoor
open Go.RowKit Go.Maps Go.Proofs.Tryz
open Go renaming TypeId→GA,Value→Fr,World→Fk,wpList→GY,Calls→Jq,FuncId→Ig
open Option renaming map_eq_some_iff→Ga
open List renaming mem_cons→FQ,not_mem_nil→FO,mem_of_find?_eq_some→Gl,range→GU,find?_some→He,getElem?_map→HZ,find?_eq_none→Hb,getElem?_append_left→GN,getElem?_append_right→Gj,mem_map→HM,mem_map_of_mem→Jm,getElem?_eq_getElem→FC
open Go.World renaming alloc_heap_new→Df,cell?→FI
open Bool renaming and_eq_true→FG,false_eq_true→FN,false_ne_true→FY
open And renaming intro→EQ
open Go.RowKit.Below renaming refl→FB
open _root_.Array renaming getElem?_eq_some_iff→FT,getElem?_setIfInBounds→Hy
variable {b g i j k n:Nat}{A:Act}{W w w0:Fk}{S:bp}{s:ByteArray}{a:Option Addr}{v:Fr}
theorem aC{T:GA}{d:TypeDesc}(j:prog.underlying T=some d)(H:d.isRow=true)(w:(prog.info? T).map (·.size)=some n){g:Func}{R:Ending->Fk->Prop}{s:Tmp}{cs:List Fr}(h:ak W b T cs)(C:cs.length=n)(E:g.results= #[.cell s T])
  (G:A.tmps.getD s undef=Pt b)(hd:A.defers=[])(J:R (.returned (.agg cs.toArray)) W):bodyPost prog g R .ret A W:=by
 have F:A.tmps[s]?.getD undef=Pt b:=by rw[<-G];simp
 have D:=run_loadVar_mid (P:=prog) W b 0 T cs d h.whole j H (by rw[C];exact w);refine bodyPost_ret (v:= .agg cs.toArray) ?_ hd J;simp[results,E,F,asAddr,D]
theorem cv:∃d,prog.underlying 60=some d/\d.isRow=true:=by
 have h:(prog.underlying 60).map (·.isRow)=some true:=by kernel_rfl
 let ⟨d,j,g⟩:=Ga.1 h
 exact⟨d,j,g⟩
def da(li co:Int):List Fr:=[.int .i64 0,.int .i64 li,.int .i64 co,.string ⟨#[]⟩,.string ⟨#[]⟩,.int .i64 0,.int .i64 0,.string ⟨#[]⟩,.int .i64 0,.bool false,.int .i64 0,.slice none 0 0,.int .i64 0,.int .i64 0,.string ⟨#[]⟩,.int .i64 0,.bool false,.int .i64 0,.slice none 0 0,.slice none 0 0,.slice none 0 0,.int .i64 0,.int .i64 0,.int .i64 0,.bool false]
theorem hC(w j:Int):∀v∈da w j,v.oneCell'=true:=by intro v g;unfold da at g;simp only[FQ,FO,or_false]at g;rcases g with rfl|rfl|rfl|rfl|rfl|rfl|rfl|rfl|rfl|rfl|rfl|rfl|rfl|rfl|rfl|rfl|rfl|rfl|rfl|rfl|rfl|rfl|rfl|rfl|rfl<;>rfl
theorem bf{A:Array Oper}{C:List Oper}{o:Oper}{a:Act}{j:Exit->Act->Fk->Prop}{T:GA}(K:(prog.info? T).map (·.size)=some n)(G:o.guard=none)(x y:Operand)(D:o.op= .store T x y)
  (w0:Fk)(c cs:List Fr)(H:w=w0.alloc (.cells c.toArray T))(F:c.length=n)(g:cs.length=n)(N:∀v∈cs,v.oneCell'=true)(z:Nat)(E:w0.1.size=z)(J:a.eval x=Pt z)(M:a.eval y= .agg cs.toArray)
  (h:GY prog A j C (a.put o.dst undef) (w0.alloc (.cells cs.toArray T))):GY prog A j (o::C) a w:=by
 subst H;subst E;refine wpList_plain G fun R Q=>?_;unfold Oper.wp execOp;have:=run_storeAt_new (P:=prog) w0 T c.toArray cs.toArray (by rw[K];simp[g]) (by simp[F,g]) (all_oneCell_toArray N);simp only[D,J,M,Sem.run_bind,this,Result.andThen_ok];exact Q _ _ h
theorem Sb.fresh(B:Nat)(w:Fk)(j g:Int):Sb B (w.alloc (.cells (da j g).toArray 60)) w.1.size (aP 0 (j,g) aq aq aT aT [] []):=by refine⟨_,Df _ _,?_⟩;unfold aP bX da;exact⟨[I 0,I 0,.string ⟨#[]⟩,I 0,.bool false,I 0,.slice none 0 0],[I 0,I 0,.string ⟨#[]⟩,I 0,.bool false,I 0,.slice none 0 0],none,none,0,0,z,hD _ 0 0 ⟨#[]⟩,hD _ 0 0 ⟨#[]⟩,⟨rl,by decide⟩,by unfold aE;trivial,⟨rl,by decide⟩,by unfold aE;trivial⟩
theorem ac{j:Array Oper}{A:List Oper}{o:Oper}{a:Act}{g:Exit->Act->Fk->Prop}{T:GA}{d:TypeDesc}(G:prog.underlying T=some d)(K:d.isRow=true)(H:(prog.info? T).map (·.size)=some n)(E:o.guard=none)(x:Operand)(D:o.op= .load T x)
  (b:Nat)(cs:List Fr)(F:a.eval x=Pt b)(C:Hid (ak w b T cs))(J:cs.length=n)(h:GY prog j g A (a.put o.dst (.agg cs.toArray)) w):GY prog j g (o::A) a w:=
 wpList_load_mid E T x D b 0 F cs d C.whole G K (by rw[J];exact H) h
theorem ab{A:Array Oper}{D:List Oper}{o:Oper}{a:Act}{j:Exit->Act->Fk->Prop}{T:GA}(J:(prog.info? T).map (·.size)=some n)(G:o.guard=none)(x y:Operand)(F:o.op= .store T x y)
  (b:Nat)(cs C:List Fr)(H:a.eval x=Pt b)(M:a.eval y= .agg cs.toArray)(E:Hid (ak w b T C))(K:C.length=n)(g:cs.length=n)(N:∀v∈cs,v.oneCell'=true)(h:GY prog A j D (a.put o.dst undef) (w.setCells b 0 cs)):GY prog A j (o::D) a w:=
 wpList_store_mid G T x y F b 0 cs.toArray H M (E.there (by simp[K,g])) (by rw[J];simp[g]) (all_oneCell_toArray N) (by simpa using h)
theorem hh{sb z B:Nat}{C:List Fr}{st:St}(K:Rw w b S g)(N:Kp w W b b)(_:Sb B W sb st)(h:Rw W b S j)(F:ak W z 60 C)(H:C.length=25)(J:w.1.size<=z)(Q:z<B)(U:b<w.1.size){cs:List Fr}(D:ak W sb 60 cs/\bX (fun c=>B<=c/\c≠sb) W cs st):
  ak (W.setCells z 0 cs) z 60 cs/\WP w b S (.ok (st,j)) (Ag w) (.returned (.agg cs.toArray)) (W.setCells z 0 cs):=by
 have G:=D.2.cells.1;have E:=Kp.Dn J cs 0 N;refine⟨F.DK (by rw[G,H]),E,⟨cs,rfl,?_⟩,K.fin h E (au (by omega) cs 0 W)⟩;refine bX.CQ (fun c A=> (by have:=A.1;omega:w.1.size<=c)) (bX.keep (fun c o v A M=>?_) D.2);rw[<-M];simp[FI,au (w:=W) (vs:=cs) (o:=0) (show c≠z by have:=A.1;omega)]
theorem sy(g:Fn)(a c:Array Fr)(w:Fk):(binOp .eql 154 (.func g a c) .nilFunc).run prog w= .ok (.bool false) w:=by kernel_rfl
theorem wJ(w:Fk):(binOp .eql 154 .nilFunc .nilFunc).run prog w= .ok (.bool true) w:=by kernel_rfl
def zq(T:List Wd)(k:Nat):List (St->Nat->PR St):=if k=1 then [kd T,AO T,lx T] else if k=8∨k=12 then [kd T,pR T] else if k=11 then [kd T,lx T] else if k=14 then [] else if k=15 then [lx T] else [kd T]
theorem uP(s:ByteArray):bQ s<16:=by
 unfold bQ;rcases hf:(GU 16).find? fun k=>decide (fk.getD k aq≠aq)&&decide (fk.getD k aq=s) with _|k
 .exact Nat.zero_lt_succ _
 .have:=Gl hf;simpa using this
theorem wG(s:ByteArray):bQ s≠2/\bQ s≠3:=by
 unfold bQ;rcases hf:(GU 16).find? fun k=>decide (fk.getD k aq≠aq)&&decide (fk.getD k aq=s) with _|k
 .exact⟨by decide,by decide⟩
 .have:=He hf;simp only[FG,decide_eq_true_eq]at this;refine⟨fun e=>?_,fun e=>?_⟩
  .have g:=e;subst g;exact this.1 z
  .have g:=e;subst g;exact this.1 z
theorem ud(T:List Wd)(p:Int×Int)(k i:Nat)(h:k<16)(D:k≠0)(A:k≠2)(w:k≠3)(C:k≠4)(E:k≠5):
  (ap (ia (zq T k) ((aP 0 p aq aq aT aT [] []).setKind k) i) fun st j=>oH T st j)=aW T p k i:=by
 have g:k=1∨k=6∨k=7∨k=8∨k=9∨k=10∨k=11∨k=12∨k=13∨k=14∨k=15:=by omega
 rcases g with rfl|rfl|rfl|rfl|rfl|rfl|rfl|rfl|rfl|rfl|rfl;all_goals
  simp[zq,aW,ia,kd,AO,lx,pR,oH,gp,aP,St.setKind,St.setName,St.DH,St.Dh]
theorem sh(F:b≠0){B sb:Nat}{p:Int×Int}{R:Except Nat (St×Nat)}{fv:Fr}(h:Rw w b S k)(M:hR w)(C:hr w b fv (bQ s) (jR (bQ s)))(N:oa S sb)(J:b<B)(X:B<=sb)
  (W:Sb B w sb (aP 0 p aq aq aT aT [] []))(K:bQ s≠0)(h4:¬bQ s=4)(V:¬bQ s=5)(j:aW S.T p (bQ s) k=some R):
  ∃H D:Nat,fv= .func (.func 110) #[] #[Pt H,Pt D]/\Jq prog 110 #[Pt b,Pt sb,Pt H,Pt D] w (SP w b sb B S R):=by
 have U:=uP s;have E:=wG s;rw[<-ud S.T p (bQ s) k U K E.1 E.2 h4 V]at j;generalize bQ s=q at *;refine pq (G:=zq S.T q) F ?_ ?_ h M C N J X W j ?_;all_goals
  have g:q=1∨q=6∨q=7∨q=8∨q=9∨q=10∨q=11∨q=12∨q=13∨q=14∨q=15:=by omega
 .have Z:=ro (b:=b) (S:=S);have Y:=rv (b:=b) (S:=S);have a0:=rG (b:=b) (S:=S) F;have Q:=wg (b:=b) (S:=S);intro i A;rcases g with rfl|rfl|rfl|rfl|rfl|rfl|rfl|rfl|rfl|rfl|rfl;all_goals
   rcases i with _|_|_|i;all_goals first
    |exact⟨_,z,.inl z,Z⟩
    |exact⟨_,z,.inr (.inl z),Y⟩
    |exact⟨_,z,.inr (.inr (.inl z)),a0⟩
    |exact⟨_,z,.inr (.inr (.inr z)),Q⟩
    | (exfalso;simp[jR]at A;omega)
    | (exfalso;simp[jR]at A;done)
 .rcases g with rfl|rfl|rfl|rfl|rfl|rfl|rfl|rfl|rfl|rfl|rfl<;>rfl
 .rcases g with rfl|rfl|rfl|rfl|rfl|rfl|rfl|rfl|rfl|rfl|rfl<;>decide
theorem qC{f:Nat}(a8:b≠0)(hB:CB b S f):CS b S (f+1):=by
 intro w k R h hO i4 HR;rw[pS]at HR;let ⟨j1,b4,a6⟩:=cv
 have d9:=h.lt;have j0:=h.mx;have j4:=h.le;have HH:=O h;have h0:=h.alloc (.cells fW 60);have hp:=fd h0;have f6:=pV S.T S.en k;let ⟨wd,e0⟩:=eX (bo S.T S.en k)
 have g7:k<S.T.length->wd=S.T.getD k default:=fun e=>by rw[<-e0];unfold bo;rw[aD e]
 rw[e0]at hp f6;let ⟨kd,E,M,C,A⟩:=wd
 have V:=O (EQ g7 (show kd=ba S.T k from f6));clear e0 f6 g7 h;have g9:ak (w.alloc (.cells fW 60)) w.1.size 60 fW.toList:=Df _ _;have f9:Kp w (w.alloc (.cells fW 60)) b b:=(Kp.refl w b b).alloc _;have g5:(w.alloc (.cells fW 60)).1.size=w.1.size+1:=by simp
 go_in;go_wp2_with fail;apply hp.mono;rintro e G ⟨rfl,d4⟩;simp only[Wd.val];have h1:=h0.below d4;have h6:=g9.below d4;have h8:=f9.trans (bi (b:=b) d4);have i3:=d4.size;rw[g5]at i3;clear h0 g9 f9 d4 hp g5;have f2:(G.alloc (.cells #[I kd,.string E,I M,I C,I A] 142)).1.size=G.1.size+1:=by simp
 have g8:Tk (G.alloc (.cells #[I kd,.string E,I M,I C,I A] 142)) G.1.size kd E M (C,A):=Df _ _;have e9:=g8.alloc (.cells (da C A).toArray 60);have h2:=(h1.alloc (.cells #[I kd,.string E,I M,I C,I A] 142)).alloc (.cells (da C A).toArray 60);have a7:=(h6.alloc (.cells #[I kd,.string E,I M,I C,I A] 142)).alloc (.cells (da C A).toArray 60);have Y:=(h8.alloc (.cells #[I kd,.string E,I M,I C,I A] 142)).alloc (.cells (da C A).toArray 60);have Q:=Sb.fresh G.1.size (G.alloc (.cells #[I kd,.string E,I M,I C,I A] 142)) C A;rw[f2]at Q;have f8:=e9.c0;have t1:=e9.c1;have HE:=O (EQ h2 (EQ a7 (EQ Y Q)));clear e9 g8 h2 a7 Y Q h1 h6 h8;have d3:b<G.1.size:=by omega
 by_cases f3:kd=1
 .subst f3;go_wp2_with (with_reducible refine s0 60 ?_;refine bf ar z (.tmp 4) (.tmp 12) z (G.alloc (.cells #[I 1,.string E,I M,I C,I A] 142)) fW.toList (da C A) z z z (hC C A) _ f2 z z ?_);let ⟨h2,a7,Y,Q⟩:=HE
  clear HE f8 t1;let ⟨sb,e7⟩:=eX (G.1.size+1)
  rw[e7]at Q ⊢;generalize (G.alloc (.cells #[I 1,.string E,I M,I C,I A] 142)).alloc (.cells (da C A).toArray 60)=U at *;have hA:=HH.EW (sb:=sb) (by omega);have d5:=cR S.T (i:=k) (by rw[<-V.o.2];decide);have D:=HR;have f5:cB S.T k=(C,A):=by unfold cB;rw[<-V.o.1 d5]
  rw[aD V.o.2.symm,f5,<-qV]at D;apply (oc a8 U G.1.size sb k _ R h2 (hO.kp Y a8) hA d3 (by omega) Q D).mono;rintro e W3 ⟨b6,g3⟩;have b8:=Y.drop b6 (by omega);rcases R with j|⟨st,j⟩
  .obtain rfl:=g3;exact⟨z,b8,z⟩
  .obtain⟨rfl,d6,h3⟩:=g3;have i7:=d6;let ⟨cs,K,F⟩:=i7
   have d8:=a7.kp b6 (by omega) (by omega);have J:=F.cells.1;have b5:=F.cells.2;have b7:=O K;have HZ:=O d8;have N:=O (hh HH b8 d6 h3 d8 z rl (by omega) d9 ⟨K,F⟩);clear b8 d6 h3 d8 K F b6 h2 a7 Y Q hB D;go_wp2_with (first| (with_reducible refine l0 60 ?_;refine ac b4 a6 ar z (.tmp 4) z sb cs z b7 J ?_)| (with_reducible refine s0 60 ?_;refine ab ar z (.tmp 2) (.tmp 18) z w.1.size cs fW.toList z z HZ z J b5 ?_));exact aC b4 a6 ar N.1 J z z z N.2
 .have j5:(kd==1)=false:=by simpa using f3
  go_upto_region 6 with (with_reducible refine s0 60 ?_;refine bf ar z (.tmp 4) (.tmp 12) z (G.alloc (.cells #[I kd,.string E,I M,I C,I A] 142)) fW.toList (da C A) z z z (hC C A) _ f2 z z ?_);let ⟨h2,a7,Y,Q⟩:=HE
  clear HE;let ⟨sb,e7⟩:=eX (G.1.size+1)
  rw[e7]at Q ⊢;generalize (G.alloc (.cells #[I kd,.string E,I M,I C,I A] 142)).alloc (.cells (da C A).toArray 60)=U at *;have hA:=HH.EW (sb:=sb) (by omega);have D:=HR;rw[am (fun e=>f3 (V.o.2.trans e))]at D;have f4:=i4.kp Y rl;let ⟨g,l,n,i0,j2,hg,g4⟩:=f4.mp
  have hv:=g4 E;let ⟨v,Z⟩:=eX (((eB l E).map fun p=>p.2.1).getD .nilFunc)
  have i9:∀n,(Instr.lookup 86 (.map (some g)) (.string E) false).run prog (U.drewN n)= .ok v (U.drewN n):=fun m=>by rw[<-Z];exact uX (w:=U.drewN m) hg E
  have c4:=h2.c4;rw[i0]at c4;go_quiet (fail);rename_i nq;have h3:=h2.drewN nq;have d6:=Q.drewN nq;have d8:=a7.drewN nq;have b8:=Y.drewN nq;have h7:nj (U.drewN nq) b S:=f4.keep (fun _ _ _=>z);have d0:(U.drewN nq).cell? (ad G.1.size 0)=some (I kd):=f8;have h9:∀s,gs (U.drewN nq) b (bQ s) ((eB l s).map fun p=>p.2.1):=by
   obtain⟨g',l',n',e1,-,e2,e3⟩:=h7.mp;rw[i0]at e1;cases e1;have e4:(U.drewN nq).1[g]? =some (.map (l.map dK).toArray n):=hg;rw[e4]at e2;intro s;have e5:l=l':=by
    have e6:(l.map dK)=(l'.map dK):=by simpa using(Obj.map.inj (Option.some.inj e2)).1
    exact List.map_inj_right (fun a b e8=>by
     let ⟨a1,a2,a3⟩:=a
     let ⟨b1,b2,b3⟩:=b
     unfold dK at e8;simp at e8;let ⟨q1,q2,q3⟩:=e8
     rw[q1,q2,q3])|>.1 e6
   rw[e5];exact e3 s
  have X:=h9 E;generalize U.drewN nq=a9 at *;have c1:=h3.c1;have f1:=h3.frozen 1;by_cases b6:kd=3
  .subst b6;have d5:=cR S.T (i:=k) (by rw[<-V.o.2];decide);have i1:(S.T.getD k default).text=E:=by rw[<-V.o.1 d5]
   have f5:cB S.T k=(C,A):=by unfold cB;rw[<-V.o.1 d5]
   rw[i1,f5]at D;have i5:ba S.T k=3:=V.2.symm;have h4:=h3.step d5;have b9:=d6.kp ((Kp.refl a9 b b).Dg 1 (I ((k:Int)+1))) d3 (by omega);have c8:=d8.kp ((Kp.refl a9 b b).Dg 1 (I ((k:Int)+1))) (by omega) (by omega);have c9:=h7.kp ((Kp.refl a9 b b).Dg 1 (I ((k:Int)+1))) rl;have a4:=b8.Dg 1 (I ((k:Int)+1));unfold gs at X;by_cases d1:bQ E=0
   .rw[aD d1]at X;rw[aD (.inr d1)]at D;cases D;rw[X]at Z;obtain rfl:Value.nilFunc=v:=Z;have f7:=wJ;go_wp2_with fail;apply (gI h3).mono;rintro e W5 ⟨rfl,f0⟩;exact⟨z,b8.trans (bi f0),z⟩
   .rw[am d1]at X;rw[am (fun e=>e.elim (fun e=>e i5) d1)]at D;by_cases H:bQ E=5
    .rw[aD H]at D;rw[am (by omega),aD H]at X;rw[X]at Z;obtain rfl:Value.func (.func 74) #[] #[]=v:=Z;have f7:=sy (.func 74) #[] #[];go_wp2_with fail;generalize a9.setCell (ad b 1) (I ((k:Int)+1))=V4 at *;apply (pm a8 hB V4 G.1.size sb (k+1) (aP 0 (C,A) aq aq aT aT [] []) R h4 (hO.kp a4 a8) c9 hA d3 (by omega) b9 D).mono;rintro e W5 ⟨j7,a5⟩;have W:=a4.drop j7 (by omega);rcases R with j|⟨st,j⟩
     .obtain rfl:=a5;exact⟨z,W,z⟩
     .obtain⟨rfl,H,h5⟩:=a5;have d7:=H;let ⟨cs,K,F⟩:=d7
      have j6:=c8.kp j7 (by omega) (by omega);have J:=F.cells.1;have b5:=F.cells.2;have b7:=O K;have HZ:=O j6;have N:=O (hh HH W H h5 j6 z rl (by omega) d9 ⟨K,F⟩);go_wp2_with (first| (with_reducible refine l0 60 ?_;refine ac b4 a6 ar z (.tmp 4) z sb cs z b7 J ?_)| (with_reducible refine s0 60 ?_;refine ab ar z (.tmp 2) (.tmp 49) z w.1.size cs fW.toList z z HZ z J b5 ?_));exact aC b4 a6 ar N.1 J z z z N.2
    .rw[am H]at D;by_cases d2:bQ E=4
     .rw[aD d2]at D;rw[aD d2]at X;rw[X]at Z;obtain rfl:Value.func (.func 71) #[] #[]=v:=Z;have f7:=sy (.func 71) #[] #[];go_wp2_with fail;generalize a9.setCell (ad b 1) (I ((k:Int)+1))=V4 at *;apply (xs a8 hB V4 G.1.size sb (k+1) (aP 0 (C,A) aq aq aT aT [] []) R h4 (hO.kp a4 a8) c9 hA d3 (by omega) b9 D).mono;rintro e W5 ⟨j7,a5⟩;have W:=a4.drop j7 (by omega);rcases R with j|⟨st,j⟩
      .obtain rfl:=a5;exact⟨z,W,z⟩
      .obtain⟨rfl,H,h5⟩:=a5;have d7:=H;let ⟨cs,K,F⟩:=d7
       have j6:=c8.kp j7 (by omega) (by omega);have J:=F.cells.1;have b5:=F.cells.2;have b7:=O K;have HZ:=O j6;have N:=O (hh HH W H h5 j6 z rl (by omega) d9 ⟨K,F⟩);go_wp2_with (first| (with_reducible refine l0 60 ?_;refine ac b4 a6 ar z (.tmp 4) z sb cs z b7 J ?_)| (with_reducible refine s0 60 ?_;refine ab ar z (.tmp 2) (.tmp 49) z w.1.size cs fW.toList z z HZ z J b5 ?_));exact aC b4 a6 ar N.1 J z z z N.2
     .rw[am d2]at D;rw[am d2,am H]at X;let ⟨fv,i8,hP⟩:=X
      rw[i8]at Z;obtain rfl:fv=v:=Z;have g6:=hP.keep (w':=a9.setCell (ad b 1) (I ((k:Int)+1))) (fun c hc K=> ((Kp.refl a9 b b).Dg 1 (I ((k:Int)+1))).block c hc (by omega) (by omega));let ⟨g1,g2,i6,i2⟩:=sh a8 h4 (hO.kp a4 a8) g6 hA d3 (by omega) b9 d1 d2 H D
      subst i6;have f7:=sy (.func 110) #[] #[Pt g1,Pt g2];go_wp2_with fail;generalize a9.setCell (ad b 1) (I ((k:Int)+1))=V4 at *;apply (i2).mono;rintro e W5 ⟨j7,a5⟩;have W:=a4.drop j7 (by omega);rcases R with j|⟨st,j⟩
      .obtain rfl:=a5;exact⟨z,W,z⟩
      .obtain⟨rfl,H,h5⟩:=a5;have d7:=H;let ⟨cs,K,F⟩:=d7
       have j6:=c8.kp j7 (by omega) (by omega);have J:=F.cells.1;have b5:=F.cells.2;have b7:=O K;have HZ:=O j6;have N:=O (hh HH W H h5 j6 z rl (by omega) d9 ⟨K,F⟩);go_wp2_with (first| (with_reducible refine l0 60 ?_;refine ac b4 a6 ar z (.tmp 4) z sb cs z b7 J ?_)| (with_reducible refine s0 60 ?_;refine ab ar z (.tmp 2) (.tmp 49) z w.1.size cs fW.toList z z HZ z J b5 ?_));exact aC b4 a6 ar N.1 J z z z N.2
  .have j3:(kd !=3)=true:=by simpa using b6
   rw[aD (.inl (fun e=>b6 (V.o.2.trans e)))]at D;cases D;go_wp2_with fail;apply (gI h3).mono;rintro e W5 ⟨rfl,f0⟩;exact⟨z,b8.trans (bi f0),z⟩
theorem tK(D:b≠0):∀f,(∀g,g<=f->CB b S g)/\(∀g,g<=f->CS b S g):=by
 intro f;induction f with
 |zero=>
  refine⟨fun g A=>?_,fun g A=>?_⟩
  .obtain rfl:g=0:=by omega
   intro w k R h H G j;rw[qk]at j;cases j
  .obtain rfl:g=0:=by omega
   intro w k R h H G j;rw[pH]at j;cases j
 |succ f F=>
  let ⟨C,E⟩:=F
  refine⟨fun g A=>?_,fun g A=>?_⟩
  .by_cases h:g<=f
   .exact C g h
   .obtain rfl:g=f+1:=by omega
    exact px D E
  .by_cases h:g<=f
   .exact E g h
   .obtain rfl:g=f+1:=by omega
    exact qC D (C f rl)
theorem lZ(A:b≠0)(h:Rw w b S k)(j:hR w)(g:nj w b S){R:Except Nat (List St×Nat)}(C:rb S.T k=some R):
  Jq prog 72 #[Pt b] w (WP w b S R (xF w)):=(tK A (3*S.T.length+3)).1 _ rl w k R h j g C
theorem cE{kind:Nat}{cap:Nat}{g:List Ig}(h:∀i,i<g.length->∃j A,a=some (ad j A)/\w.cell? (ad j (A+i))=some (.func (.func (g.getD i 0)) #[] #[]))(n:Nat)(E:g.length=n):
  Jq prog 70 #[I kind,.slice a n cap] w fun e w'=>∃v,e= .returned v/\bL w w'/\hr w' w'.1.size v kind g:=by
 subst E;go_in;go_wp2;go_ret;refine⟨_,z,((FB _ w).alloc rl _).alloc (by simp) _,w.1.size,w.1.size+1,a,cap,z,by simp;omega,?_,by simp,?_,fun i H=>?_⟩
 .exact((ak.new w 53 [I kind]).alloc (.cells #[.slice a g.length cap] 195)).cell 0
 .simp
 .let ⟨j,A,G,C⟩:=h i H
  have D:=World.block_lt_of_cell? w _ C;have F:j<w.1.size:=D;refine⟨j,A,G,by simp;omega,?_⟩;rw[<-C];have J:=(((FB _ w).alloc rl (.cells #[I kind] 53)).alloc (by simp) (.cells #[.slice a g.length cap] 195)).block j F;simp only[FI,J]
theorem gs.move{w':Fk}{b':Nat}{v:Option Fr}(h:gs w b k v)(X:b<=b')(g:∀ (c o:Nat) (u:Fr),c<b->w.cell? (ad c o)=some u->w'.cell? (ad c o)=some u):gs w' b' k v:=by
 unfold gs at h ⊢;split
 .rw[aD (by assumption)]at h;exact h
 rename_i F;rw[am F]at h;split
 .rw[aD (by assumption)]at h;exact h
 rename_i G;rw[am G]at h;split
 .rw[aD (by assumption)]at h;exact h
 rename_i R;rw[am R]at h;let ⟨fv,D,W,M,a,cap,Q,U,V,K,H,N⟩:=h
 refine⟨fv,D,W,M,a,cap,Q,by omega,g _ _ _ U V,by omega,g _ _ _ K H,fun i J=>?_⟩;let ⟨j,C,E,S,A⟩:=N i J
 exact⟨j,C,E,by omega,g _ _ _ S A⟩
structure uD (w0 w:Fk) (g:Nat) (ks:List Nat):Prop where
 EN:Below w0.1.size w0 w
 g0:w0.1.size<=g
 mp:∃ (l:pe) (n:Nat),w.1[g]? =some (.map (l.map dK).toArray n)/\l.map (fun p=>p.1)=ks.map (fun k=>fk.getD k aq)/\∀ (i:Nat) (p:ByteArray×Fr×Nat) (k:Nat),l[i]? =some p->ks[i]? =some k->gs w w.1.size k (some p.2.1)
theorem uD.below{w':Fk}{A:List Nat}(h:uD w0 w g A)(j:bL w w'):uD w0 w' g A:=by
 let ⟨l,n,C,G,F⟩:=h.mp
 have J:=h.EN.size;refine⟨h.EN.trans (j.mono J),h.g0,l,n,(j.block g (FT.1 C).1).trans C,G,fun i p k E H=> (F i p k E H).move j.size (fun c o u K D=>?_)⟩;rw[<-D];simp[FI,j.block c K]
theorem uD.put{E:List Nat}(h:uD w0 w g E)(hv:gs w w.1.size k (some v))(s:ByteArray)(Z:s=fk.getD k aq)(U:(E.all fun j=>decide (fk.getD j aq≠s))=true):
  ∃W,(Instr.mapUpdate 86 (.map (some g)) (.string s) v).run prog w= .ok () W/\uD w0 W g (E++[k])/\W.1.size=w.1.size:=by
 let ⟨l,n,F,G,R⟩:=h.mp
 have Y:eB l s=none:=by
  unfold eB;rw[Hb];intro p A;have N:p.1∈l.map (fun p=>p.1):=Jm A;rw[G]at N;let ⟨j,D,a2⟩:=HM.1 N
  have Q:=List.all_eq_true.1 U j D;simp only[decide_eq_true_eq]at Q;simp only[decide_eq_true_eq];intro e;exact Q (a2.trans e)
 have X:=(FT.1 F).1;refine⟨_,yw F s v Y,?_,by simp⟩;have V:({w with heap:=w.1.setIfInBounds g (.map ((l++[(s,v,n)]).map dK).toArray (n+1))}:Fk).1[g]? =some (.map ((l++[(s,v,n)]).map dK).toArray (n+1)):=by show (w.1.setIfInBounds g _)[g]? =_;rw[Hy];simp[X]
 have K:∀c,c≠g->({w with heap:=w.1.setIfInBounds g (.map ((l++[(s,v,n)]).map dK).toArray (n+1))}:Fk).1[c]? =w.1[c]? :=fun c C=>by show (w.1.setIfInBounds g _)[c]? =_;rw[Hy];simp[Ne.symm C]
 have J:∀ (c o:Nat) (u:Fr),c<w.1.size->w.cell? (ad c o)=some u->({w with heap:=w.1.setIfInBounds g (.map ((l++[(s,v,n)]).map dK).toArray (n+1))}:Fk).cell? (ad c o)=some u:=fun c o u _ M=>by
  by_cases C:c=g
  .subst C;simp[FI,F]at M
  .rw[<-M];simp only[FI];rw[K c C]
 refine⟨⟨h.EN.os,h.EN.tape,h.EN.output,by simpa using h.EN.size,fun c C=> (K c (by have:=h.g0;omega)).trans (h.EN.block c C)⟩,h.g0,_,_,V,by simp[G,Z],fun i p j A D=>?_⟩;have S:l.length=E.length:=by have:=congrArg List.length G;simpa using this
 rcases Nat.lt_or_ge i l.length with H|H
 .rw[GN H]at A;rw[GN (by omega)]at D;exact(R i p j A D).move (by simp) J
 .have a3:i<l.length+1:=by have:=(List.getElem?_eq_some_iff.1 A).1;simpa using this
  obtain rfl:i=l.length:=by omega
  rw[Gj rl]at A;rw[Gj (by omega)]at D;have a1:p=(s,v,n):=by simpa using A.symm
  have a0:j=k:=by simpa [S]using D.symm
  subst a1;subst a0;exact hv.move (by simp) J
def fx:List Nat:=[1,6,7,8,9,10,11,12,13,14,15,4,5]
theorem rP:∀k,k<16->fk.getD k aq≠aq->k∈fx:=by decide
theorem wj:∀k∈fx,bQ (fk.getD k aq)=k:=by decide
theorem uD.reads(h:uD w0 w g fx):∃ (l:pe) (n:Nat),w.1[g]? =some (.map (l.map dK).toArray n)/\∀s,gs w w.1.size (bQ s) ((eB l s).map fun p=>p.2.1):=by
 let ⟨l,n,R,F,Q⟩:=h.mp
 refine⟨l,n,R,fun s=>?_⟩;have S:l.length=fx.length:=by have:=congrArg List.length F;simpa using this
 rcases hf:eB l s with _|p
 .have N:bQ s=0:=by
   unfold bQ;rcases hg:(GU 16).find? fun k=>decide (fk.getD k aq≠aq)&&decide (fk.getD k aq=s) with _|k
   .rfl
   .have G:=Gl hg;have j:=He hg;simp only[FG,decide_eq_true_eq]at j;have A:=rP k (by simpa using G) j.1;have C:fk.getD k aq∈l.map (fun p=>p.1):=by rw[F];exact Jm (f:=fun k=>fk.getD k aq) A
    let ⟨p,E,D⟩:=HM.1 C
    unfold eB at hf;have K:=Hb.1 hf p E;simp only[decide_eq_true_eq]at K;exact absurd (D.trans j.2) K
  unfold gs;rw[aD N];rfl
 .unfold eB at hf;have E:=Gl hf;have D:=He hf;simp only[decide_eq_true_eq]at D;let ⟨i,J,H⟩:=List.mem_iff_getElem.1 E
  have M:fx[i]? =some (fx[i]'(by omega)):=FC (by omega);have G:=Q i p _ (by rw[<-H];exact FC J) M;have j:p.1=fk.getD (fx[i]'(by omega)) aq:=by
   have A:(l.map (fun p=>p.1))[i]? =(fx.map (fun k=>fk.getD k aq))[i]? :=by rw[F]
   rw[HZ,HZ,M,FC J,H]at A;simpa using A
  have C:=wj _ (List.getElem_mem (by omega:i<fx.length));rw[<-j,D]at C;rw[C];exact G
theorem rq(w:Fk):Jq prog 31 #[] w fun e w'=>∃g,e= .returned (.map (some g))/\uD w w' g fx:=by
 have j:Hid (uD w (w.alloc (.map #[] 0)) w.1.size []):=O ⟨(FB _ w).alloc rl _,rl,[],0,Df _ _,z,fun i p k h=>by simp at h⟩;have j4:(Instr.makeMap 86 none).run prog w= .ok (.map (some w.1.size)) (w.alloc (.map #[] 0)):=by kernel_rfl
 go_in;go_wp2_with fail;let ⟨g,hg⟩:=eX (w.1.size)
 rw[hg]at j ⊢;have a2:∀i,i< [63,68,66].length->∃A C,(some ⟨(w.alloc (.map #[] 0)).1.size,0,none⟩:Option Addr)=some (ad A C)/\((w.alloc (.map #[] 0)).alloc (.cells #[.func (.func 63) #[] #[],.func (.func 68) #[] #[],.func (.func 66) #[] #[]] 154)).cell? (ad A (C+i))=some (.func (.func (([63,68,66]:List Ig).getD i 0)) #[] #[]):=fun i D=>by
  refine⟨_,0,z,?_⟩;rw[(ak.new (w.alloc (.map #[] 0)) 154 [.func (.func 63) #[] #[],.func (.func 68) #[] #[],.func (.func 66) #[] #[]]).cell];rcases i with _|_|_|i
  .rfl
  .rfl
  .rfl
  .simp at D;try omega
 have Z:Below (w.alloc (.map #[] 0)).1.size (w.alloc (.map #[] 0)) ((w.alloc (.map #[] 0)).alloc (.cells #[.func (.func 63) #[] #[],.func (.func 68) #[] #[],.func (.func 66) #[] #[]] 154)):=(FB _ _).alloc rl _;have h6:(w.alloc (.map #[] 0)).1.size=g+1:=by rw[<-hg];simp
 rw[h6]at a2;refine(cE (kind:=1) a2 3 z).mono ?_;rintro e V0 ⟨v0,rfl,f6,a6⟩;have g2:=j.below (Z.trans (f6.mono Z.size));obtain⟨F,i5,e7,-⟩:=g2.put (k:=1) (v:=v0) ⟨v0,z,a6⟩ ⟨#[108,101,116]⟩ z (by decide);have j:=O e7;go_wp2_with fail;have e6:∀i,i< [63].length->∃A C,(some (ad F.1.size 0):Option Addr)=some (ad A C)/\(F.alloc (.cells #[.func (.func 63) #[] #[]] 154)).cell? (ad A (C+i))=some (.func (.func (([63]:List Ig).getD i 0)) #[] #[]):=fun i D=>by
  refine⟨_,0,z,?_⟩;rw[(ak.new F 154 [.func (.func 63) #[] #[]]).cell];rcases i with _|i
  .rfl
  .simp at D;try omega
 have V:bL F (F.alloc (.cells #[.func (.func 63) #[] #[]] 154)):=(FB _ _).alloc rl _;refine(cE (kind:=6) e6 1 z).mono ?_;rintro e V1 ⟨v1,rfl,e5,a7⟩;have d0:=j.below (V.trans (e5.mono V.size));obtain⟨J,h8,a8,-⟩:=d0.put (k:=6) (v:=v1) ⟨v1,z,a7⟩ ⟨#[108,111,99,107]⟩ z (by decide);have j:=O a8;go_wp2_with fail;have e3:∀i,i< [63].length->∃A C,(some (ad J.1.size 0):Option Addr)=some (ad A C)/\(J.alloc (.cells #[.func (.func 63) #[] #[]] 154)).cell? (ad A (C+i))=some (.func (.func (([63]:List Ig).getD i 0)) #[] #[]):=fun i D=>by
  refine⟨_,0,z,?_⟩;rw[(ak.new J 154 [.func (.func 63) #[] #[]]).cell];rcases i with _|i
  .rfl
  .simp at D;try omega
 have a4:bL J (J.alloc (.cells #[.func (.func 63) #[] #[]] 154)):=(FB _ _).alloc rl _;refine(cE (kind:=7) e3 1 z).mono ?_;rintro e V2 ⟨v2,rfl,d1,g8⟩;have g5:=j.below (a4.trans (d1.mono a4.size));obtain⟨N,i7,g4,-⟩:=g5.put (k:=7) (v:=v2) ⟨v2,z,g8⟩ ⟨#[117,110,108,111,99,107]⟩ z (by decide);have j:=O g4;go_wp2_with fail;have a9:∀i,i< [63,65].length->∃A C,(some (ad N.1.size 0):Option Addr)=some (ad A C)/\(N.alloc (.cells #[.func (.func 63) #[] #[],.func (.func 65) #[] #[]] 154)).cell? (ad A (C+i))=some (.func (.func (([63,65]:List Ig).getD i 0)) #[] #[]):=fun i D=>by
  refine⟨_,0,z,?_⟩;rw[(ak.new N 154 [.func (.func 63) #[] #[],.func (.func 65) #[] #[]]).cell];rcases i with _|_|i
  .rfl
  .rfl
  .simp at D;try omega
 have W:bL N (N.alloc (.cells #[.func (.func 63) #[] #[],.func (.func 65) #[] #[]] 154)):=(FB _ _).alloc rl _;refine(cE (kind:=8) a9 2 z).mono ?_;rintro e V3 ⟨v3,rfl,d9,h1⟩;have b9:=j.below (W.trans (d9.mono W.size));obtain⟨M,j0,h2,-⟩:=b9.put (k:=8) (v:=v3) ⟨v3,z,h1⟩ ⟨#[119,97,105,116]⟩ z (by decide);have j:=O h2;go_wp2_with fail;have d2:∀i,i< [63].length->∃A C,(some (ad M.1.size 0):Option Addr)=some (ad A C)/\(M.alloc (.cells #[.func (.func 63) #[] #[]] 154)).cell? (ad A (C+i))=some (.func (.func (([63]:List Ig).getD i 0)) #[] #[]):=fun i D=>by
  refine⟨_,0,z,?_⟩;rw[(ak.new M 154 [.func (.func 63) #[] #[]]).cell];rcases i with _|i
  .rfl
  .simp at D;try omega
 have X:bL M (M.alloc (.cells #[.func (.func 63) #[] #[]] 154)):=(FB _ _).alloc rl _;refine(cE (kind:=9) d2 1 z).mono ?_;rintro e V4 ⟨v4,rfl,f2,d3⟩;have g7:=j.below (X.trans (f2.mono X.size));obtain⟨Q,h9,e1,-⟩:=g7.put (k:=9) (v:=v4) ⟨v4,z,d3⟩ ⟨#[115,105,103,110,97,108]⟩ z (by decide);have j:=O e1;go_wp2_with fail;have e8:∀i,i< [63].length->∃A C,(some (ad Q.1.size 0):Option Addr)=some (ad A C)/\(Q.alloc (.cells #[.func (.func 63) #[] #[]] 154)).cell? (ad A (C+i))=some (.func (.func (([63]:List Ig).getD i 0)) #[] #[]):=fun i D=>by
  refine⟨_,0,z,?_⟩;rw[(ak.new Q 154 [.func (.func 63) #[] #[]]).cell];rcases i with _|i
  .rfl
  .simp at D;try omega
 have U:bL Q (Q.alloc (.cells #[.func (.func 63) #[] #[]] 154)):=(FB _ _).alloc rl _;refine(cE (kind:=10) e8 1 z).mono ?_;rintro e V5 ⟨v5,rfl,d8,f1⟩;have b6:=j.below (U.trans (d8.mono U.size));obtain⟨H,h7,h3,-⟩:=b6.put (k:=10) (v:=v5) ⟨v5,z,f1⟩ ⟨#[97,108,108]⟩ z (by decide);have j:=O h3;go_wp2_with fail;have d6:∀i,i< [63,66].length->∃A C,(some (ad H.1.size 0):Option Addr)=some (ad A C)/\(H.alloc (.cells #[.func (.func 63) #[] #[],.func (.func 66) #[] #[]] 154)).cell? (ad A (C+i))=some (.func (.func (([63,66]:List Ig).getD i 0)) #[] #[]):=fun i D=>by
  refine⟨_,0,z,?_⟩;rw[(ak.new H 154 [.func (.func 63) #[] #[],.func (.func 66) #[] #[]]).cell];rcases i with _|_|i
  .rfl
  .rfl
  .simp at D;try omega
 have Y:bL H (H.alloc (.cells #[.func (.func 63) #[] #[],.func (.func 66) #[] #[]] 154)):=(FB _ _).alloc rl _;refine(cE (kind:=11) d6 2 z).mono ?_;rintro e V6 ⟨v6,rfl,f3,h4⟩;have f7:=j.below (Y.trans (f3.mono Y.size));obtain⟨K,i9,f8,-⟩:=f7.put (k:=11) (v:=v6) ⟨v6,z,h4⟩ ⟨#[115,101,110,100]⟩ z (by decide);have j:=O f8;go_wp2_with fail;have b4:∀i,i< [63,65].length->∃A C,(some (ad K.1.size 0):Option Addr)=some (ad A C)/\(K.alloc (.cells #[.func (.func 63) #[] #[],.func (.func 65) #[] #[]] 154)).cell? (ad A (C+i))=some (.func (.func (([63,65]:List Ig).getD i 0)) #[] #[]):=fun i D=>by
  refine⟨_,0,z,?_⟩;rw[(ak.new K 154 [.func (.func 63) #[] #[],.func (.func 65) #[] #[]]).cell];rcases i with _|_|i
  .rfl
  .rfl
  .simp at D;try omega
 have a1:bL K (K.alloc (.cells #[.func (.func 63) #[] #[],.func (.func 65) #[] #[]] 154)):=(FB _ _).alloc rl _;refine(cE (kind:=12) b4 2 z).mono ?_;rintro e V7 ⟨v7,rfl,b5,e2⟩;have c8:=j.below (a1.trans (b5.mono a1.size));obtain⟨E,i6,g1,-⟩:=c8.put (k:=12) (v:=v7) ⟨v7,z,e2⟩ ⟨#[114,101,99,118]⟩ z (by decide);have j:=O g1;go_wp2_with fail;have b7:∀i,i< [63].length->∃A C,(some (ad E.1.size 0):Option Addr)=some (ad A C)/\(E.alloc (.cells #[.func (.func 63) #[] #[]] 154)).cell? (ad A (C+i))=some (.func (.func (([63]:List Ig).getD i 0)) #[] #[]):=fun i D=>by
  refine⟨_,0,z,?_⟩;rw[(ak.new E 154 [.func (.func 63) #[] #[]]).cell];rcases i with _|i
  .rfl
  .simp at D;try omega
 have S:bL E (E.alloc (.cells #[.func (.func 63) #[] #[]] 154)):=(FB _ _).alloc rl _;refine(cE (kind:=13) b7 1 z).mono ?_;rintro e V8 ⟨v8,rfl,e9,f0⟩;have b8:=j.below (S.trans (e9.mono S.size));obtain⟨R,i3,e4,-⟩:=b8.put (k:=13) (v:=v8) ⟨v8,z,f0⟩ ⟨#[115,112,97,119,110]⟩ z (by decide);have j:=O e4;go_wp2_with fail;have a5:∀i,i< ([]:List Ig).length->∃A C,(none:Option Addr)=some (ad A C)/\R.cell? (ad A (C+i))=some (.func (.func (([]:List Ig).getD i 0)) #[] #[]):=fun i D=>by simp at D
 have a0:bL R R:=FB _ _;refine(cE (kind:=14) a5 0 z).mono ?_;rintro e V9 ⟨v9,rfl,f4,h5⟩;have c9:=j.below (a0.trans (f4.mono a0.size));obtain⟨G,i4,g9,-⟩:=c9.put (k:=14) (v:=v9) ⟨v9,z,h5⟩ ⟨#[106,111,105,110]⟩ z (by decide);have j:=O g9;go_wp2_with fail;have h0:∀i,i< [66].length->∃A C,(some (ad G.1.size 0):Option Addr)=some (ad A C)/\(G.alloc (.cells #[.func (.func 66) #[] #[]] 154)).cell? (ad A (C+i))=some (.func (.func (([66]:List Ig).getD i 0)) #[] #[]):=fun i D=>by
  refine⟨_,0,z,?_⟩;rw[(ak.new G 154 [.func (.func 66) #[] #[]]).cell];rcases i with _|i
  .rfl
  .simp at D;try omega
 have a3:bL G (G.alloc (.cells #[.func (.func 66) #[] #[]] 154)):=(FB _ _).alloc rl _;refine(cE (kind:=15) h0 1 z).mono ?_;rintro e j3 ⟨f9,rfl,f5,d7⟩;have g6:=j.below (a3.trans (f5.mono a3.size));obtain⟨i8,j2,e0,-⟩:=g6.put (k:=15) (v:=f9) ⟨f9,z,d7⟩ ⟨#[112,114,105,110,116]⟩ z (by decide);have j:=O e0;obtain⟨i1,i0,d4,-⟩:=j.put (k:=4) (v:= .func (.func 71) #[] #[]) z ⟨#[105,102]⟩ z (by decide);have j:=O d4;obtain⟨j1,i2,d5,-⟩:=j.put (k:=5) (v:= .func (.func 74) #[] #[]) z ⟨#[119,104,105,108,101]⟩ z (by decide);have j:=O d5;go_wp2;go_ret;exact⟨g,z,j⟩
theorem ek:∃d,prog.underlying 46=some d/\d.isRow=true:=by
 have h:(prog.underlying 46).map (·.isRow)=some true:=by kernel_rfl
 let ⟨d,j,g⟩:=Ga.1 h
 exact⟨d,j,g⟩
theorem aR:(prog.info? 46).map (·.size)=some 6:=by kernel_rfl
theorem vw(T:List Wd)(i:Nat):ca T i=if cr T i (gw.getD 1 aq)=true then 1 else if cr T i (gw.getD 2 aq)=true then 2 else if cr T i (gw.getD 3 aq)=true then 3 else if cr T i (gw.getD 4 aq)=true then 4 else if cr T i (gw.getD 5 aq)=true then 5 else if cr T i (gw.getD 6 aq)=true then 6 else 0:=by unfold ca;rw[show GU 7=[0,1,2,3,4,5,6] from z];generalize F:cr T i=g;cases D:g (gw.getD 1 aq)<;>cases w:g (gw.getD 2 aq)<;>cases j:g (gw.getD 3 aq)<;>cases C:g (gw.getD 4 aq)<;>cases E:g (gw.getD 5 aq)<;>cases A:g (gw.getD 6 aq)<;>simp only[List.find?_cons,D,w,j,C,E,A]<;>rfl
def zU(w:Fk)(d:De)(e:Ending)(w':Fk):Prop:=∃cs:List Fr,e= .returned (.agg cs.toArray)/\fS (w.1.size<=·) w' cs d
theorem ed{y z:Nat}{d:De}{cs C:List Fr}(K:Rw w b S g)(N:Kp w W b b)(h:Rw W b S j)(F:ak W z 46 C)(H:C.length=6)(J:w.1.size<=z)(Q:b<w.1.size)
  (D:fS (fun c=>w.1.size<=c/\c≠y/\c≠z) W cs d):ak (W.setCells z 0 cs) z 46 cs/\WP w b S (.ok (d,j)) (zU w) (.returned (.agg cs.toArray)) (W.setCells z 0 cs):=by
 have G:=D.cells.1;have E:=Kp.Dn J cs 0 N;refine⟨F.DK (by rw[G,H]),E,⟨cs,rfl,?_⟩,K.fin h E (au (by omega) cs 0 W)⟩;refine fS.CQ (fun c A=>A.1) (fS.keep (fun c o v A M=>?_) D);rw[<-M];simp[FI,au (w:=W) (vs:=cs) (o:=0) A.2.2]
theorem ni{T:List Wd}(g:∀i,0<=(T.getD i default).num/\(T.getD i default).num<=2147483647){n:Int}(h:bG T i=some (.ok (n,j))):0<=n/\n<=2147483647:=by
 unfold bG at h;split at h
 .cases h;exact g i
 .cases h
theorem cL{y:Nat}(D:Rw w b S k)(g:Kp w W b b)(h:Rw W b S j)(A:w.1.size<=y)(C:y≠b)(o:Nat)(u:Fr):Rw (W.setCell (ad y o) u) b S j:=
 D.fin h (g.R A o u) (Below.heap_setCell W (ad y o) u b (Ne.symm C))
theorem gZ{ok:Nat->Prop}(W:Fk)(k j g n:Int)(s:ByteArray):fS ok W [I k,I j,I g,.string s,I n,.slice none 0 0] (bZ k (j,g) s n []):=⟨none,0,z,⟨rl,by decide⟩,by unfold bZ aE;trivial⟩
theorem nv(g7:b≠0)(hN:∀i,0<=(S.T.getD i default).num/\(S.T.getD i default).num<=2147483647)(h:Rw w b S k)(hO:hR w)(i9:nj w b S){R:Except Nat (De×Nat)}(g:pD S.T k=some R):
  Jq prog 76 #[Pt b] w (WP w b S R (zU w)):=by
 unfold pD at g;have a3:=vw S.T k;let ⟨k8,d5,d4⟩:=ek
 have e9:=h.lt;have HH:=O h;have h0:=h.alloc (.cells #[I 0,I 0,I 0,.string ⟨#[]⟩,I 0,.slice none 0 0] 46);have hp:=fd h0;let ⟨wd,g8⟩:=eX (bo S.T S.en k)
 have i3:k<S.T.length->wd=S.T.getD k default:=fun e=>by rw[<-g8];unfold bo;rw[aD e]
 rw[g8]at hp;let ⟨kd,tx,nu,C,A⟩:=wd
 have hf:=pK kd tx nu C A;have HA:=O i3;clear g8 i3 h;have i5:ak (w.alloc (.cells #[I 0,I 0,I 0,.string ⟨#[]⟩,I 0,.slice none 0 0] 46)) w.1.size 46 [I 0,I 0,I 0,.string ⟨#[]⟩,I 0,.slice none 0 0]:=Df _ _;have i0:Kp w (w.alloc (.cells #[I 0,I 0,I 0,.string ⟨#[]⟩,I 0,.slice none 0 0] 46)) b b:=(Kp.refl w b b).alloc _;have i2:(w.alloc (.cells #[I 0,I 0,I 0,.string ⟨#[]⟩,I 0,.slice none 0 0] 46)).1.size=w.1.size+1:=by simp
 go_in;go_wp2_with fail;apply hp.mono;rintro e W1 ⟨rfl,g1⟩;simp only[Wd.val];have h1:=(h0.below g1).alloc (.cells #[I 0,I C,I A,.string ⟨#[]⟩,I 0,.slice none 0 0] 46);have i7:=(i5.below g1).alloc (.cells #[I 0,I C,I A,.string ⟨#[]⟩,I 0,.slice none 0 0] 46);have i8:=(i0.trans (bi (b:=b) g1)).alloc (.cells #[I 0,I C,I A,.string ⟨#[]⟩,I 0,.slice none 0 0] 46);have g9:ak (W1.alloc (.cells #[I 0,I C,I A,.string ⟨#[]⟩,I 0,.slice none 0 0] 46)) W1.1.size 46 [I 0,I C,I A,.string ⟨#[]⟩,I 0,.slice none 0 0]:=Df _ _;have i6:=g1.size;rw[i2]at i6;have k1:(W1.alloc (.cells #[I 0,I C,I A,.string ⟨#[]⟩,I 0,.slice none 0 0] 46)).1.size=W1.1.size+1:=by simp
 clear h0 i5 i0 g1 hp i2;go_wp2_with fail;let ⟨y,hy⟩:=eX (W1.1.size)
 rw[hy]at g9 i6 k1 ⊢;generalize W1.alloc (.cells #[I 0,I C,I A,.string ⟨#[]⟩,I 0,.slice none 0 0] 46)=W at *;have j:y≠b:=by omega
 have E:w.1.size≠b:=by omega
 have b9:w.1.size≠y:=by omega
 have F:w.1.size<=y:=by omega
 apply (bD h1 (gw.getD 1 aq)).mono;rintro e W2 ⟨g4,rfl,h2⟩;have g5:=g9.kp g4 j j;have g6:=i7.kp g4 E E;have g2:=i8.trans g4;let ⟨m,hm⟩:=eX (cr S.T k (gw.getD 1 aq))
 rw[hm]at h2 a3;rw[hm];clear hm g4;clear h1 i8 g9 i7;cases m;case true=>
  have a5:ca S.T k=1:=by simpa using a3
  clear a3;have e0:=eJ S.T (i:=k) (by rw[a5];decide);have e1:cB S.T k=(C,A):=by unfold cB;rw[<-HA.o e0]
  rw[a5,e1,am (by decide)]at g;simp only[if_true]at h2;clear a5;go_wp2_with fail;rcases hx3:aV S.T (k+1) with _| (j3|⟨x3,j3⟩)
  .rw[hx3]at g;cases g
  .rw[hx3]at g;cases g;apply (cn h2 hx3).mono;rintro e W3 ⟨d9,rfl⟩;exact⟨z,g2.trans d9,z⟩
  rw[hx3,ay]at g;apply (cn h2 hx3).mono;rintro e W3 ⟨d9,rfl,h3⟩;have e2:=g5.kp d9 j j;have f6:=g6.kp d9 E E;have e5:=g2.trans d9;clear h2 g2 g5 g6 hx3 d9;have c0:=e2.cell 0;have f0:=e2.frozen 0;have c3:=e2.cell 3;have f3:=e2.frozen 3;have c9:ak ((W3.setCell (ad y 0) (I 1)).setCell (ad y 3) (.string x3)) y 46 [I 1,I C,I A,.string x3,I 0,.slice none 0 0]:=((e2.set1 0 (I 1)).set1 3 (.string x3));have d7:=((f6.other b9 0 (I 1)).other b9 3 (.string x3));have h4:=(cL HH (e5.R F 0 (I 1)) (cL HH e5 h3 F j 0 (I 1)) F j 3 (.string x3));have d1:=((e5.R F 0 (I 1)).R F 3 (.string x3));have X:=O (EQ c9 (EQ d7 (EQ h4 d1)));clear c9 d7 h4 d1 e2 f6 h3 e5;go_wp2_with fail;clear c0 f0 c3 f3
  let ⟨c9,d7,h4,d1⟩:=X
  clear X;generalize (W3.setCell (ad y 0) (I 1)).setCell (ad y 3) (.string x3)=W4 at *;rw[aD (by decide)]at g;rcases hx5:aU S.T iE j3 with _| (j5|⟨x5,j5⟩)
  .rw[hx5]at g;cases g
  .rw[hx5]at g;cases g;apply (aX h4 iE hx5).mono;rintro e W5 ⟨c8,rfl⟩;exact⟨z,d1.trans c8,z⟩
  rw[hx5,ay]at g;apply (aX h4 iE hx5).mono;rintro e W5 ⟨c8,rfl,h5⟩;have b6:=c9.kp c8 j j;have d2:=d7.kp c8 E E;have b7:=d1.trans c8;clear h4 d1 c9 d7 hx5 c8;go_wp2_with fail;apply (bD h5 eg).mono;rintro e W6 ⟨a4,rfl,U⟩;have a2:=b6.kp a4 j j;have a6:=d2.kp a4 E E;have a0:=b7.trans a4;let ⟨m,hm⟩:=eX (cr S.T j5 eg)
  rw[hm]at U g;rw[hm];clear hm a4;clear h5 b7 b6 d2;cases m;case false=>
   rw[am FY]at g;simp only[FN,if_false]at U;go_wp2_with fail;rcases hx7:bG S.T j5 with _| (j7|⟨D,j7⟩)
   .rw[hx7]at g;cases g
   .rw[hx7]at g;cases g;apply (eG U hx7).mono;rintro e W7 ⟨N,rfl⟩;exact⟨z,a0.trans N,z⟩
   rw[hx7,ay]at g;apply (eG U hx7).mono;rintro e W7 ⟨N,rfl,M⟩;have H:=a2.kp N j j;have a1:=a6.kp N E E;have J:=a0.trans N;have k2:=ni hN hx7;clear U a0 a2 a6 hx7 N;have c4:=H.cell 4;have f4:=H.frozen 4;have Q:ak (W7.setCell (ad y 4) (I D)) y 46 [I 1,I C,I A,.string x3,I D,.slice none 0 0]:=(H.set1 4 (I D));have Z:=(a1.other b9 4 (I D));have Y:=(cL HH J M F j 4 (I D));have V:=(J.R F 4 (I D));have X:=O (EQ Q (EQ Z (EQ Y V)));clear Q Z Y V H a1 M J;go_wp2_with fail;clear c4 f4;let ⟨Q,Z,Y,V⟩:=X
   clear X;generalize W7.setCell (ad y 4) (I D)=W8 at *;rcases hx9:aU S.T aI j7 with _| (j9|⟨x9,j9⟩)
   .rw[hx9]at g;cases g
   .rw[hx9]at g;cases g;apply (aX Y aI hx9).mono;rintro e W9 ⟨b5,rfl⟩;exact⟨z,V.trans b5,z⟩
   rw[hx9,ay]at g;apply (aX Y aI hx9).mono;rintro e W9 ⟨b5,rfl,h9⟩;have b8:=Q.kp b5 j j;have d0:=Z.kp b5 E E;have a8:=V.trans b5;clear Y V Q Z hx9 b5;cases g;have G:fS (fun c=>w.1.size<=c/\c≠y/\c≠w.1.size) W9 [I 1,I C,I A,.string x3,I D,.slice none 0 0] (bZ 1 (C,A) x3 D []):=gZ _ 1 C A D x3;have G:=ed (y:=y) HH a8 h9 d0 z rl e9 G;have a7:∀v∈ ([I 1,I C,I A,.string x3,I D,.slice none 0 0]:List Fr),v.oneCell'=true:=by intro v hv;simp only[FQ,FO,or_false]at hv;rcases hv with rfl|rfl|rfl|rfl|rfl|rfl<;>rfl
   have K:([I 1,I C,I A,.string x3,I D,.slice none 0 0]:List Fr).length=6:=z;obtain⟨cs,a9⟩:=eX ([I 1,I C,I A,.string x3,I D,.slice none 0 0]);rw[a9]at G a7 K b8;clear a9;have d6:=O b8;have HZ:=O d0;have HF:=O G;clear b8 d0 h9 a8 G;go_wp2_with (first| (with_reducible refine l0 46 ?_;refine ac d5 d4 aR z (.tmp 3) z y cs z d6 K ?_)| (with_reducible refine s0 46 ?_;refine ab aR z (.tmp 2) (.tmp 117) z w.1.size cs _ z z HZ z K a7 ?_));exact aC d5 d4 aR HF.1 K z z z HF.2
  case true=>
   rw[aD rfl]at g;simp only[if_true]at U;go_wp2_with fail;rcases hx7:bG S.T (j5+1) with _| (j7|⟨D,j7⟩)
   .rw[hx7]at g;cases g
   .rw[hx7]at g;cases g;apply (eG U hx7).mono;rintro e W7 ⟨N,rfl⟩;exact⟨z,a0.trans N,z⟩
   rw[hx7,ay]at g;apply (eG U hx7).mono;rintro e W7 ⟨N,rfl,M⟩;have H:=a2.kp N j j;have a1:=a6.kp N E E;have J:=a0.trans N;have k2:=ni hN hx7;clear U a0 a2 a6 hx7 N;have hw:IntKind.i64.wrap (-D)= -D:=by rw[IntKind.wrap_i64];omega
   have c4:=H.cell 4;have f4:=H.frozen 4;have Q:ak ((W7.setCell (ad y 4) (I D)).setCell (ad y 4) (I (-D))) y 46 [I 1,I C,I A,.string x3,I (-D),.slice none 0 0]:=(H.set1 4 (I D)).set1 4 (I (-D));have Z:=(a1.other b9 4 (I D)).other b9 4 (I (-D));have Y:=cL HH (J.R F 4 (I D)) (cL HH J M F j 4 (I D)) F j 4 (I (-D));have V:=(J.R F 4 (I D)).R F 4 (I (-D));have X:=O (EQ Q (EQ Z (EQ Y V)));clear Q Z Y V H a1 M J;go_wp2_with fail;clear c4 f4 hw;let ⟨Q,Z,Y,V⟩:=X
   clear X;generalize (W7.setCell (ad y 4) (I D)).setCell (ad y 4) (I (-D))=W8 at *;rcases hx9:aU S.T aI j7 with _| (j9|⟨x9,j9⟩)
   .rw[hx9]at g;cases g
   .rw[hx9]at g;cases g;apply (aX Y aI hx9).mono;rintro e W9 ⟨b5,rfl⟩;exact⟨z,V.trans b5,z⟩
   rw[hx9,ay]at g;apply (aX Y aI hx9).mono;rintro e W9 ⟨b5,rfl,h9⟩;have b8:=Q.kp b5 j j;have d0:=Z.kp b5 E E;have a8:=V.trans b5;clear Y V Q Z hx9 b5;cases g;have G:fS (fun c=>w.1.size<=c/\c≠y/\c≠w.1.size) W9 [I 1,I C,I A,.string x3,I (-D),.slice none 0 0] (bZ 1 (C,A) x3 (-D) []):=gZ _ 1 C A (-D) x3;have G:=ed (y:=y) HH a8 h9 d0 z rl e9 G;have a7:∀v∈ ([I 1,I C,I A,.string x3,I (-D),.slice none 0 0]:List Fr),v.oneCell'=true:=by intro v hv;simp only[FQ,FO,or_false]at hv;rcases hv with rfl|rfl|rfl|rfl|rfl|rfl<;>rfl
   have K:([I 1,I C,I A,.string x3,I (-D),.slice none 0 0]:List Fr).length=6:=z;obtain⟨cs,a9⟩:=eX ([I 1,I C,I A,.string x3,I (-D),.slice none 0 0]);rw[a9]at G a7 K b8;clear a9;have d6:=O b8;have HZ:=O d0;have HF:=O G;clear b8 d0 h9 a8 G;go_wp2_with (first| (with_reducible refine l0 46 ?_;refine ac d5 d4 aR z (.tmp 3) z y cs z d6 K ?_)| (with_reducible refine s0 46 ?_;refine ab aR z (.tmp 2) (.tmp 117) z w.1.size cs _ z z HZ z K a7 ?_));exact aC d5 d4 aR HF.1 K z z z HF.2
 case false=>
  simp only[FN,if_false]at h2;rw[am FY]at a3;go_wp2_with fail;apply (bD h2 (gw.getD 2 aq)).mono;rintro e W3 ⟨d9,rfl,h3⟩;have e2:=g5.kp d9 j j;have f6:=g6.kp d9 E E;have e5:=g2.trans d9;let ⟨m,hm⟩:=eX (cr S.T k (gw.getD 2 aq))
  rw[hm]at h3 a3;rw[hm];clear hm d9;clear h2 g2 g5 g6;cases m;case true=>
   have a5:ca S.T k=2:=by simpa using a3
   clear a3;have e0:=eJ S.T (i:=k) (by rw[a5];decide);have e1:cB S.T k=(C,A):=by unfold cB;rw[<-HA.o e0]
   rw[a5,e1,am (by decide)]at g;simp only[if_true]at h3;clear a5;go_wp2_with fail;rcases hx4:aV S.T (k+1) with _| (j4|⟨x4,j4⟩)
   .rw[hx4]at g;cases g
   .rw[hx4]at g;cases g;apply (cn h3 hx4).mono;rintro e W4 ⟨d8,rfl⟩;exact⟨z,e5.trans d8,z⟩
   rw[hx4,ay]at g;apply (cn h3 hx4).mono;rintro e W4 ⟨d8,rfl,h4⟩;have c9:=e2.kp d8 j j;have d7:=f6.kp d8 E E;have d1:=e5.trans d8;clear h3 e5 e2 f6 hx4 d8;have c0:=c9.cell 0;have f0:=c9.frozen 0;have c3:=c9.cell 3;have f3:=c9.frozen 3;have b6:ak ((W4.setCell (ad y 0) (I 2)).setCell (ad y 3) (.string x4)) y 46 [I 2,I C,I A,.string x4,I 0,.slice none 0 0]:=((c9.set1 0 (I 2)).set1 3 (.string x4));have d2:=((d7.other b9 0 (I 2)).other b9 3 (.string x4));have h5:=(cL HH (d1.R F 0 (I 2)) (cL HH d1 h4 F j 0 (I 2)) F j 3 (.string x4));have b7:=((d1.R F 0 (I 2)).R F 3 (.string x4));have X:=O (EQ b6 (EQ d2 (EQ h5 b7)));clear b6 d2 h5 b7 c9 d7 h4 d1;go_wp2_with fail;clear c0 f0 c3 f3
   let ⟨b6,d2,h5,b7⟩:=X
   clear X;generalize (W4.setCell (ad y 0) (I 2)).setCell (ad y 3) (.string x4)=W5 at *;rw[am (by decide),aD (by decide)]at g;rcases hx6:bG S.T j4 with _| (j6|⟨x6,j6⟩)
   .rw[hx6]at g;cases g
   .rw[hx6]at g;cases g;apply (eG h5 hx6).mono;rintro e W6 ⟨a4,rfl⟩;exact⟨z,b7.trans a4,z⟩
   rw[hx6,ay]at g;apply (eG h5 hx6).mono;rintro e W6 ⟨a4,rfl,U⟩;have a2:=b6.kp a4 j j;have a6:=d2.kp a4 E E;have a0:=b7.trans a4;clear h5 b7 b6 d2 hx6 a4;have c4:=a2.cell 4;have f4:=a2.frozen 4;have H:ak (W6.setCell (ad y 4) (I x6)) y 46 [I 2,I C,I A,.string x4,I x6,.slice none 0 0]:=(a2.set1 4 (I x6));have a1:=(a6.other b9 4 (I x6));have M:=(cL HH a0 U F j 4 (I x6));have J:=(a0.R F 4 (I x6));have X:=O (EQ H (EQ a1 (EQ M J)));clear H a1 M J a2 a6 U a0;go_wp2_with fail;clear c4 f4;let ⟨H,a1,M,J⟩:=X
   clear X;generalize W6.setCell (ad y 4) (I x6)=W7 at *;rcases hx8:aU S.T aI j6 with _| (j8|⟨x8,j8⟩)
   .rw[hx8]at g;cases g
   .rw[hx8]at g;cases g;apply (aX M aI hx8).mono;rintro e W8 ⟨b4,rfl⟩;exact⟨z,J.trans b4,z⟩
   rw[hx8,ay]at g;apply (aX M aI hx8).mono;rintro e W8 ⟨b4,rfl,Y⟩;have Q:=H.kp b4 j j;have Z:=a1.kp b4 E E;have V:=J.trans b4;clear M J H a1 hx8 b4;cases g;have G:fS (fun c=>w.1.size<=c/\c≠y/\c≠w.1.size) W8 [I 2,I C,I A,.string x4,I x6,.slice none 0 0] (bZ 2 (C,A) x4 x6 []):=gZ _ 2 C A x6 x4;have G:=ed (y:=y) HH V Y Z z rl e9 G;have a7:∀v∈ ([I 2,I C,I A,.string x4,I x6,.slice none 0 0]:List Fr),v.oneCell'=true:=by intro v hv;simp only[FQ,FO,or_false]at hv;rcases hv with rfl|rfl|rfl|rfl|rfl|rfl<;>rfl
   have K:([I 2,I C,I A,.string x4,I x6,.slice none 0 0]:List Fr).length=6:=z;obtain⟨cs,a9⟩:=eX ([I 2,I C,I A,.string x4,I x6,.slice none 0 0]);rw[a9]at G a7 K Q;clear a9;have d6:=O Q;have HZ:=O Z;have HF:=O G;clear Q Z Y V G;go_wp2_with (first| (with_reducible refine l0 46 ?_;refine ac d5 d4 aR z (.tmp 3) z y cs z d6 K ?_)| (with_reducible refine s0 46 ?_;refine ab aR z (.tmp 2) (.tmp 117) z w.1.size cs _ z z HZ z K a7 ?_));exact aC d5 d4 aR HF.1 K z z z HF.2
  case false=>
   simp only[FN,if_false]at h3;rw[am FY]at a3;go_wp2_with fail;apply (bD h3 (gw.getD 3 aq)).mono;rintro e W4 ⟨d8,rfl,h4⟩;have c9:=e2.kp d8 j j;have d7:=f6.kp d8 E E;have d1:=e5.trans d8;let ⟨m,hm⟩:=eX (cr S.T k (gw.getD 3 aq))
   rw[hm]at h4 a3;rw[hm];clear hm d8;clear h3 e5 e2 f6;cases m;case true=>
    have a5:ca S.T k=3:=by simpa using a3
    clear a3;have e0:=eJ S.T (i:=k) (by rw[a5];decide);have e1:cB S.T k=(C,A):=by unfold cB;rw[<-HA.o e0]
    rw[a5,e1,am (by decide)]at g;simp only[if_true]at h4;clear a5;go_wp2_with fail;rcases hx5:aV S.T (k+1) with _| (j5|⟨x5,j5⟩)
    .rw[hx5]at g;cases g
    .rw[hx5]at g;cases g;apply (cn h4 hx5).mono;rintro e W5 ⟨c8,rfl⟩;exact⟨z,d1.trans c8,z⟩
    rw[hx5,ay]at g;apply (cn h4 hx5).mono;rintro e W5 ⟨c8,rfl,h5⟩;have b6:=c9.kp c8 j j;have d2:=d7.kp c8 E E;have b7:=d1.trans c8;clear h4 d1 c9 d7 hx5 c8;have c0:=b6.cell 0;have f0:=b6.frozen 0;have c3:=b6.cell 3;have f3:=b6.frozen 3;have a2:ak ((W5.setCell (ad y 0) (I 3)).setCell (ad y 3) (.string x5)) y 46 [I 3,I C,I A,.string x5,I 0,.slice none 0 0]:=((b6.set1 0 (I 3)).set1 3 (.string x5));have a6:=((d2.other b9 0 (I 3)).other b9 3 (.string x5));have U:=(cL HH (b7.R F 0 (I 3)) (cL HH b7 h5 F j 0 (I 3)) F j 3 (.string x5));have a0:=((b7.R F 0 (I 3)).R F 3 (.string x5));have X:=O (EQ a2 (EQ a6 (EQ U a0)));clear a2 a6 U a0 b6 d2 h5 b7;go_wp2_with fail;clear c0 f0 c3 f3;let ⟨a2,a6,U,a0⟩:=X
    clear X;generalize (W5.setCell (ad y 0) (I 3)).setCell (ad y 3) (.string x5)=W6 at *;rw[am (by decide),am (by decide),am (by decide)]at g;rcases hx7:aU S.T aI j5 with _| (j7|⟨D,j7⟩)
    .rw[hx7]at g;cases g
    .rw[hx7]at g;cases g;apply (aX U aI hx7).mono;rintro e W7 ⟨N,rfl⟩;exact⟨z,a0.trans N,z⟩
    rw[hx7,ay]at g;apply (aX U aI hx7).mono;rintro e W7 ⟨N,rfl,M⟩;have H:=a2.kp N j j;have a1:=a6.kp N E E;have J:=a0.trans N;clear U a0 a2 a6 hx7 N;cases g;have G:fS (fun c=>w.1.size<=c/\c≠y/\c≠w.1.size) W7 [I 3,I C,I A,.string x5,I 0,.slice none 0 0] (bZ 3 (C,A) x5 0 []):=gZ _ 3 C A 0 x5;have G:=ed (y:=y) HH J M a1 z rl e9 G;have a7:∀v∈ ([I 3,I C,I A,.string x5,I 0,.slice none 0 0]:List Fr),v.oneCell'=true:=by intro v hv;simp only[FQ,FO,or_false]at hv;rcases hv with rfl|rfl|rfl|rfl|rfl|rfl<;>rfl
    have K:([I 3,I C,I A,.string x5,I 0,.slice none 0 0]:List Fr).length=6:=z;obtain⟨cs,a9⟩:=eX ([I 3,I C,I A,.string x5,I 0,.slice none 0 0]);rw[a9]at G a7 K H;clear a9;have d6:=O H;have HZ:=O a1;have HF:=O G;clear H a1 M J G;go_wp2_with (first| (with_reducible refine l0 46 ?_;refine ac d5 d4 aR z (.tmp 3) z y cs z d6 K ?_)| (with_reducible refine s0 46 ?_;refine ab aR z (.tmp 2) (.tmp 117) z w.1.size cs _ z z HZ z K a7 ?_));exact aC d5 d4 aR HF.1 K z z z HF.2
   case false=>
    simp only[FN,if_false]at h4;rw[am FY]at a3;go_wp2_with fail;apply (bD h4 (gw.getD 4 aq)).mono;rintro e W5 ⟨c8,rfl,h5⟩;have b6:=c9.kp c8 j j;have d2:=d7.kp c8 E E;have b7:=d1.trans c8;let ⟨m,hm⟩:=eX (cr S.T k (gw.getD 4 aq))
    rw[hm]at h5 a3;rw[hm];clear hm c8;clear h4 d1 c9 d7;cases m;case true=>
     have a5:ca S.T k=4:=by simpa using a3
     clear a3;have e0:=eJ S.T (i:=k) (by rw[a5];decide);have e1:cB S.T k=(C,A):=by unfold cB;rw[<-HA.o e0]
     rw[a5,e1,am (by decide)]at g;simp only[if_true]at h5;clear a5;go_wp2_with fail;rcases hx6:aV S.T (k+1) with _| (j6|⟨x6,j6⟩)
     .rw[hx6]at g;cases g
     .rw[hx6]at g;cases g;apply (cn h5 hx6).mono;rintro e W6 ⟨a4,rfl⟩;exact⟨z,b7.trans a4,z⟩
     rw[hx6,ay]at g;apply (cn h5 hx6).mono;rintro e W6 ⟨a4,rfl,U⟩;have a2:=b6.kp a4 j j;have a6:=d2.kp a4 E E;have a0:=b7.trans a4;clear h5 b7 b6 d2 hx6 a4;have c0:=a2.cell 0;have f0:=a2.frozen 0;have c3:=a2.cell 3;have f3:=a2.frozen 3;have H:ak ((W6.setCell (ad y 0) (I 4)).setCell (ad y 3) (.string x6)) y 46 [I 4,I C,I A,.string x6,I 0,.slice none 0 0]:=((a2.set1 0 (I 4)).set1 3 (.string x6));have a1:=((a6.other b9 0 (I 4)).other b9 3 (.string x6));have M:=(cL HH (a0.R F 0 (I 4)) (cL HH a0 U F j 0 (I 4)) F j 3 (.string x6));have J:=((a0.R F 0 (I 4)).R F 3 (.string x6));have X:=O (EQ H (EQ a1 (EQ M J)));clear H a1 M J a2 a6 U a0;go_wp2_with fail;clear c0 f0 c3 f3;let ⟨H,a1,M,J⟩:=X
     clear X;generalize (W6.setCell (ad y 0) (I 4)).setCell (ad y 3) (.string x6)=W7 at *;rw[am (by decide),am (by decide),am (by decide)]at g;rcases hx8:aU S.T aI j6 with _| (j8|⟨x8,j8⟩)
     .rw[hx8]at g;cases g
     .rw[hx8]at g;cases g;apply (aX M aI hx8).mono;rintro e W8 ⟨b4,rfl⟩;exact⟨z,J.trans b4,z⟩
     rw[hx8,ay]at g;apply (aX M aI hx8).mono;rintro e W8 ⟨b4,rfl,Y⟩;have Q:=H.kp b4 j j;have Z:=a1.kp b4 E E;have V:=J.trans b4;clear M J H a1 hx8 b4;cases g;have G:fS (fun c=>w.1.size<=c/\c≠y/\c≠w.1.size) W8 [I 4,I C,I A,.string x6,I 0,.slice none 0 0] (bZ 4 (C,A) x6 0 []):=gZ _ 4 C A 0 x6;have G:=ed (y:=y) HH V Y Z z rl e9 G;have a7:∀v∈ ([I 4,I C,I A,.string x6,I 0,.slice none 0 0]:List Fr),v.oneCell'=true:=by intro v hv;simp only[FQ,FO,or_false]at hv;rcases hv with rfl|rfl|rfl|rfl|rfl|rfl<;>rfl
     have K:([I 4,I C,I A,.string x6,I 0,.slice none 0 0]:List Fr).length=6:=z;obtain⟨cs,a9⟩:=eX ([I 4,I C,I A,.string x6,I 0,.slice none 0 0]);rw[a9]at G a7 K Q;clear a9;have d6:=O Q;have HZ:=O Z;have HF:=O G;clear Q Z Y V G;go_wp2_with (first| (with_reducible refine l0 46 ?_;refine ac d5 d4 aR z (.tmp 3) z y cs z d6 K ?_)| (with_reducible refine s0 46 ?_;refine ab aR z (.tmp 2) (.tmp 117) z w.1.size cs _ z z HZ z K a7 ?_));exact aC d5 d4 aR HF.1 K z z z HF.2
    case false=>
     simp only[FN,if_false]at h5;rw[am FY]at a3;go_wp2_with fail;apply (bD h5 (gw.getD 5 aq)).mono;rintro e W6 ⟨a4,rfl,U⟩;have a2:=b6.kp a4 j j;have a6:=d2.kp a4 E E;have a0:=b7.trans a4;let ⟨m,hm⟩:=eX (cr S.T k (gw.getD 5 aq))
     rw[hm]at U a3;rw[hm];clear hm a4;clear h5 b7 b6 d2;cases m;case true=>
      have a5:ca S.T k=5:=by simpa using a3
      clear a3;have e0:=eJ S.T (i:=k) (by rw[a5];decide);have e1:cB S.T k=(C,A):=by unfold cB;rw[<-HA.o e0]
      rw[a5,e1,am (by decide)]at g;simp only[if_true]at U;clear a5;go_wp2_with fail;rcases hx7:aV S.T (k+1) with _| (j7|⟨D,j7⟩)
      .rw[hx7]at g;cases g
      .rw[hx7]at g;cases g;apply (cn U hx7).mono;rintro e W7 ⟨N,rfl⟩;exact⟨z,a0.trans N,z⟩
      rw[hx7,ay]at g;apply (cn U hx7).mono;rintro e W7 ⟨N,rfl,M⟩;have H:=a2.kp N j j;have a1:=a6.kp N E E;have J:=a0.trans N;clear U a0 a2 a6 hx7 N;have c0:=H.cell 0;have f0:=H.frozen 0;have c3:=H.cell 3;have f3:=H.frozen 3;have Q:ak ((W7.setCell (ad y 0) (I 5)).setCell (ad y 3) (.string D)) y 46 [I 5,I C,I A,.string D,I 0,.slice none 0 0]:=((H.set1 0 (I 5)).set1 3 (.string D));have Z:=((a1.other b9 0 (I 5)).other b9 3 (.string D));have Y:=(cL HH (J.R F 0 (I 5)) (cL HH J M F j 0 (I 5)) F j 3 (.string D));have V:=((J.R F 0 (I 5)).R F 3 (.string D));have X:=O (EQ Q (EQ Z (EQ Y V)));clear Q Z Y V H a1 M J;go_wp2_with fail;clear c0 f0 c3 f3;let ⟨Q,Z,Y,V⟩:=X
      clear X;generalize (W7.setCell (ad y 0) (I 5)).setCell (ad y 3) (.string D)=W8 at *;rw[am (by decide),aD (by decide)]at g;rcases hx9:bG S.T j7 with _| (j9|⟨x9,j9⟩)
      .rw[hx9]at g;cases g
      .rw[hx9]at g;cases g;apply (eG Y hx9).mono;rintro e W9 ⟨b5,rfl⟩;exact⟨z,V.trans b5,z⟩
      rw[hx9,ay]at g;apply (eG Y hx9).mono;rintro e W9 ⟨b5,rfl,h9⟩;have b8:=Q.kp b5 j j;have d0:=Z.kp b5 E E;have a8:=V.trans b5;clear Y V Q Z hx9 b5;have c4:=b8.cell 4;have f4:=b8.frozen 4;have e3:ak (W9.setCell (ad y 4) (I x9)) y 46 [I 5,I C,I A,.string D,I x9,.slice none 0 0]:=(b8.set1 4 (I x9));have e7:=(d0.other b9 4 (I x9));have e6:=(cL HH a8 h9 F j 4 (I x9));have e4:=(a8.R F 4 (I x9));have X:=O (EQ e3 (EQ e7 (EQ e6 e4)));clear e3 e7 e6 e4 b8 d0 h9 a8;go_wp2_with fail;clear c4 f4;let ⟨e3,e7,e6,e4⟩:=X
      clear X;generalize W9.setCell (ad y 4) (I x9)=f1 at *;rcases hx11:aU S.T aI j9 with _| (j2|⟨k9,j2⟩)
      .rw[hx11]at g;cases g
      .rw[hx11]at g;cases g;apply (aX e6 aI hx11).mono;rintro e i1 ⟨f8,rfl⟩;exact⟨z,e4.trans f8,z⟩
      rw[hx11,ay]at g;apply (aX e6 aI hx11).mono;rintro e i1 ⟨f8,rfl,f9⟩;have e8:=e3.kp f8 j j;have f2:=e7.kp f8 E E;have g3:=e4.trans f8;clear e6 e4 e3 e7 hx11 f8;cases g;have G:fS (fun c=>w.1.size<=c/\c≠y/\c≠w.1.size) i1 [I 5,I C,I A,.string D,I x9,.slice none 0 0] (bZ 5 (C,A) D x9 []):=gZ _ 5 C A x9 D;have G:=ed (y:=y) HH g3 f9 f2 z rl e9 G;have a7:∀v∈ ([I 5,I C,I A,.string D,I x9,.slice none 0 0]:List Fr),v.oneCell'=true:=by intro v hv;simp only[FQ,FO,or_false]at hv;rcases hv with rfl|rfl|rfl|rfl|rfl|rfl<;>rfl
      have K:([I 5,I C,I A,.string D,I x9,.slice none 0 0]:List Fr).length=6:=z;obtain⟨cs,a9⟩:=eX ([I 5,I C,I A,.string D,I x9,.slice none 0 0]);rw[a9]at G a7 K e8;clear a9;have d6:=O e8;have HZ:=O f2;have HF:=O G;clear e8 f2 f9 g3 G;go_wp2_with (first| (with_reducible refine l0 46 ?_;refine ac d5 d4 aR z (.tmp 3) z y cs z d6 K ?_)| (with_reducible refine s0 46 ?_;refine ab aR z (.tmp 2) (.tmp 117) z w.1.size cs _ z z HZ z K a7 ?_));exact aC d5 d4 aR HF.1 K z z z HF.2
     case false=>
      simp only[FN,if_false]at U;rw[am FY]at a3;go_wp2_with fail;apply (bD U (gw.getD 6 aq)).mono;rintro e W7 ⟨N,rfl,M⟩;have H:=a2.kp N j j;have a1:=a6.kp N E E;have J:=a0.trans N;let ⟨m,hm⟩:=eX (cr S.T k (gw.getD 6 aq))
      rw[hm]at M a3;rw[hm];clear hm N;clear U a0 a2 a6;cases m;case true=>
       have a5:ca S.T k=6:=by simpa using a3
       clear a3;have e0:=eJ S.T (i:=k) (by rw[a5];decide);have e1:cB S.T k=(C,A):=by unfold cB;rw[<-HA.o e0]
       rw[a5,e1,am (by decide)]at g;simp only[if_true]at M;clear a5;go_wp2_with fail;rcases hx8:aV S.T (k+1) with _| (j8|⟨x8,j8⟩)
       .rw[hx8]at g;cases g
       .rw[hx8]at g;cases g;apply (cn M hx8).mono;rintro e W8 ⟨b4,rfl⟩;exact⟨z,J.trans b4,z⟩
       rw[hx8,ay]at g;apply (cn M hx8).mono;rintro e W8 ⟨b4,rfl,Y⟩;have Q:=H.kp b4 j j;have Z:=a1.kp b4 E E;have V:=J.trans b4;clear M J H a1 hx8 b4;have c0:=Q.cell 0;have f0:=Q.frozen 0;have c3:=Q.cell 3;have f3:=Q.frozen 3;have b8:ak ((W8.setCell (ad y 0) (I 6)).setCell (ad y 3) (.string x8)) y 46 [I 6,I C,I A,.string x8,I 0,.slice none 0 0]:=((Q.set1 0 (I 6)).set1 3 (.string x8));have d0:=((Z.other b9 0 (I 6)).other b9 3 (.string x8));have h9:=(cL HH (V.R F 0 (I 6)) (cL HH V Y F j 0 (I 6)) F j 3 (.string x8));have a8:=((V.R F 0 (I 6)).R F 3 (.string x8));have X:=O (EQ b8 (EQ d0 (EQ h9 a8)));clear b8 d0 h9 a8 Q Z Y V;go_wp2_with fail;clear c0 f0 c3 f3;let ⟨b8,d0,h9,a8⟩:=X
       clear X;generalize (W8.setCell (ad y 0) (I 6)).setCell (ad y 3) (.string x8)=W9 at *;rw[am (by decide),am (by decide),aD (by decide)]at g;have k7:=b8.lt;have l3:=d0.lt;rcases hx10:rb S.T j8 with _| (j0|⟨d3,j0⟩)
       .rw[hx10]at g;cases g
       .rw[hx10]at g;cases g;apply (lZ g7 h9 (hO.kp a8 g7) (i9.kp a8 rl) hx10).mono;rintro e f1 ⟨f7,rfl⟩;exact⟨z,a8.trans f7,z⟩
       rw[hx10,ay]at g;apply (lZ g7 h9 (hO.kp a8 g7) (i9.kp a8 rl) hx10).mono;rintro e f1 ⟨f7,⟨a,cap,rfl,j1,hZ⟩,e6⟩;have e3:=b8.kp f7 j j;have e7:=d0.kp f7 E E;have e4:=a8.trans f7;clear h9 a8 b8 d0 hx10 f7;have i4:aE (fun c=>w.1.size<=c/\c≠y/\c≠w.1.size) f1 a 0 d3:=aE.CQ (fun c hc=>by have l2:W9.1.size<=c:=hc;exact⟨by omega,by omega,by omega⟩) hZ;have k0:aE (fun c=>w.1.size<=c/\c≠y/\c≠w.1.size) (f1.setCell (ad y 5) (.slice a d3.length cap)) a 0 d3:=aE.keep (fun c o v hc hv=>by rw[<-hv];exact World.cell?_setCell_far f1 (ad y 5) (ad c o) _ (Ne.symm hc.2.1)) i4;clear hZ i4;have c5:=e3.cell 5;have f5:=e3.frozen 5
       have e8:ak (f1.setCell (ad y 5) (.slice a d3.length cap)) y 46 [I 6,I C,I A,.string x8,I 0,.slice a d3.length cap]:=e3.set1 5 (.slice a d3.length cap);have f2:=e7.other b9 5 (.slice a d3.length cap);have f9:=cL HH e4 e6 F j 5 (.slice a d3.length cap);have g3:=e4.R F 5 (.slice a d3.length cap);clear e3 e7 e6 e4;cases g;have G:fS (fun c=>w.1.size<=c/\c≠y/\c≠w.1.size) (f1.setCell (ad y 5) (.slice a d3.length cap)) [I 6,I C,I A,.string x8,I 0,.slice a d3.length cap] (bZ 6 (C,A) x8 0 d3):=⟨a,cap,z,j1,k0⟩;have G:=ed (y:=y) HH g3 f9 f2 z rl e9 G;have a7:∀v∈ ([I 6,I C,I A,.string x8,I 0,.slice a d3.length cap]:List Fr),v.oneCell'=true:=by intro v hv;simp only[FQ,FO,or_false]at hv;rcases hv with rfl|rfl|rfl|rfl|rfl|rfl<;>rfl
       have K:([I 6,I C,I A,.string x8,I 0,.slice a d3.length cap]:List Fr).length=6:=z;obtain⟨cs,a9⟩:=eX ([I 6,I C,I A,.string x8,I 0,.slice a d3.length cap]);rw[a9]at G a7 K e8;clear a9;have d6:=O e8;have HZ:=O f2;have HF:=O G;clear e8 f2 f9 g3 G;go_wp2_with (first| (with_reducible refine l0 46 ?_;refine ac d5 d4 aR z (.tmp 3) z y cs z d6 K ?_)| (with_reducible refine s0 46 ?_;refine ab aR z (.tmp 2) (.tmp 112) z w.1.size cs _ z z HZ z K a7 ?_));exact aC d5 d4 aR HF.1 K z z z HF.2
      case false=> simp only[FN,if_false]at M;rw[am FY]at a3;go_wp2_with fail;rw[aD a3]at g;cases g;apply (gI M).mono;rintro e k6 ⟨rfl,hb⟩;exact⟨z,J.trans (bi hb),z⟩
theorem gf:∃d,prog.underlying 58=some d/\d.isRow=true:=by
 have h:(prog.underlying 58).map (·.isRow)=some true:=by kernel_rfl
 let ⟨d,g,j⟩:=Ga.1 h
 exact⟨d,g,j⟩
def Jp:Nat->Code->Code
 |0,c=>c
 |n+1,.seq _ c=>Jp n c
 |_,c=>c
end Go.Proofs.YtgppcdfgdaggjaaGreatDoor
