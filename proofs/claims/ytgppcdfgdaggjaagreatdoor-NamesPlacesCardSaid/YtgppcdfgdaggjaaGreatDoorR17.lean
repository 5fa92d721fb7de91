/- Texts laid together. No condition but what each law says. -/
import Derived.Test.YtgppcdfgdaggjaaGreatDoorR16
import Derived.Deep.WholeRow
set_option maxRecDepth 100000
set_option maxHeartbeats 8000000
namespace Go.Proofs.YtgppcdfgdaggjaaGreatDoor
open Go.RowKit Go.Maps
variable {b g j k n:Nat}{A:Act}{W w w0:World}{S:Src}{s:ByteArray}{a:Option Addr}{v:Value}
theorem end_blk{T:TypeId}{d:TypeDesc}(j:Tryz.prog.underlying T=some d)(H:d.isRow=true)(w:(Tryz.prog.info? T).map (·.size)=some n){g:Func}{R:Ending->World->Prop}{s:Tmp}{cs:List Value}(h:Blk W b T cs)(C:cs.length=n)(E:g.results= #[.cell s T])
  (G:A.tmps.getD s undef=Pt b)(hd:A.defers=[])(J:R (.returned (.agg cs.toArray)) W):bodyPost Tryz.prog g R .ret A W:=by
 have F:A.tmps[s]?.getD undef=Pt b:=by rw[<-G];simp
 have D:=run_loadVar_mid (P:=Tryz.prog) W b 0 T cs d h.whole j H (by rw[C];exact w);refine bodyPost_ret (v:= .agg cs.toArray) ?_ hd J;simp[results,E,F,asAddr,D]
theorem under64:∃d,Tryz.prog.underlying 60=some d/\d.isRow=true:=by
 have h:(Tryz.prog.underlying 60).map (·.isRow)=some true:=by kernel_rfl
 obtain⟨d,j,g⟩:=Option.map_eq_some_iff.1 h;exact⟨d,j,g⟩
def freshC(li co:Int):List Value:=[.int .i64 0,.int .i64 li,.int .i64 co,.string ⟨#[]⟩,.string ⟨#[]⟩,.int .i64 0,.int .i64 0,.string ⟨#[]⟩,.int .i64 0,.bool false,.int .i64 0,.slice none 0 0,.int .i64 0,.int .i64 0,.string ⟨#[]⟩,.int .i64 0,.bool false,.int .i64 0,.slice none 0 0,.slice none 0 0,.slice none 0 0,.int .i64 0,.int .i64 0,.int .i64 0,.bool false]
theorem freshC_one(w j:Int):∀v∈freshC w j,v.oneCell'=true:=by intro v g;unfold freshC at g;simp only[List.mem_cons,List.not_mem_nil,or_false]at g;rcases g with rfl|rfl|rfl|rfl|rfl|rfl|rfl|rfl|rfl|rfl|rfl|rfl|rfl|rfl|rfl|rfl|rfl|rfl|rfl|rfl|rfl|rfl|rfl|rfl|rfl<;>rfl
theorem wpList_store_fresh{A:Array Oper}{C:List Oper}{o:Oper}{a:Act}{j:Exit->Act->World->Prop}{T:TypeId}(K:(Tryz.prog.info? T).map (·.size)=some n)(G:o.guard=none)(x y:Operand)(D:o.op= .store T x y)
  (w0:World)(c cs:List Value)(H:w=w0.alloc (.cells c.toArray T))(F:c.length=n)(g:cs.length=n)(N:∀v∈cs,v.oneCell'=true)(z:Nat)(E:w0.1.size=z)(J:a.eval x=Pt z)(M:a.eval y= .agg cs.toArray)
  (h:wpList Tryz.prog A j C (a.put o.dst undef) (w0.alloc (.cells cs.toArray T))):wpList Tryz.prog A j (o::C) a w:=by
 subst H;subst E;refine wpList_plain G fun R Q=>?_;unfold Oper.wp execOp;have:=run_storeAt_new (P:=Tryz.prog) w0 T c.toArray cs.toArray (by rw[K];simp[g]) (by simp[F,g]) (all_oneCell_toArray N);simp only[D,J,M,Sem.run_bind,this,Result.andThen_ok];exact Q _ _ h
theorem Sb.fresh(B:Nat)(w:World)(j g:Int):Sb B (w.alloc (.cells (freshC j g).toArray 60)) w.1.size (mkSt 0 (j,g) noB noB zEx zEx [] []):=by refine⟨_,World.alloc_heap_new _ _,?_⟩;unfold mkSt StL freshC;exact⟨[I 0,I 0,.string ⟨#[]⟩,I 0,.bool false,I 0,.slice none 0 0],[I 0,I 0,.string ⟨#[]⟩,I 0,.bool false,I 0,.slice none 0 0],none,none,0,0,z,no_arg _ 0 0 ⟨#[]⟩,no_arg _ 0 0 ⟨#[]⟩,⟨rl,by decide⟩,by unfold StsL;trivial,⟨rl,by decide⟩,by unfold StsL;trivial⟩
theorem wpList_load_blk{j:Array Oper}{A:List Oper}{o:Oper}{a:Act}{g:Exit->Act->World->Prop}{T:TypeId}{d:TypeDesc}(G:Tryz.prog.underlying T=some d)(K:d.isRow=true)(H:(Tryz.prog.info? T).map (·.size)=some n)(E:o.guard=none)(x:Operand)(D:o.op= .load T x)
  (b:Nat)(cs:List Value)(F:a.eval x=Pt b)(C:Hid (Blk w b T cs))(J:cs.length=n)(h:wpList Tryz.prog j g A (a.put o.dst (.agg cs.toArray)) w):wpList Tryz.prog j g (o::A) a w:=
 wpList_load_mid E T x D b 0 F cs d C.whole G K (by rw[J];exact H) h
theorem wpList_store_blk{A:Array Oper}{D:List Oper}{o:Oper}{a:Act}{j:Exit->Act->World->Prop}{T:TypeId}(J:(Tryz.prog.info? T).map (·.size)=some n)(G:o.guard=none)(x y:Operand)(F:o.op= .store T x y)
  (b:Nat)(cs C:List Value)(H:a.eval x=Pt b)(M:a.eval y= .agg cs.toArray)(E:Hid (Blk w b T C))(K:C.length=n)(g:cs.length=n)(N:∀v∈cs,v.oneCell'=true)(h:wpList Tryz.prog A j D (a.put o.dst undef) (w.setCells b 0 cs)):wpList Tryz.prog A j (o::D) a w:=
 wpList_store_mid G T x y F b 0 cs.toArray H M (E.there (by simp[K,g])) (by rw[J];simp[g]) (all_oneCell_toArray N) (by simpa using h)
theorem stmt_told{sb z B:Nat}{C:List Value}{st:St}(K:Rw w b S g)(N:Kp w W b b)(_R:Sb B W sb st)(h:Rw W b S j)(F:Blk W z 60 C)(H:C.length=25)(J:w.1.size<=z)(Q:z<B)(U:b<w.1.size){cs:List Value}(D:Blk W sb 60 cs/\StL (fun c=>B<=c/\c≠sb) W cs st):
  Blk (W.setCells z 0 cs) z 60 cs/\WP w b S (.ok (st,j)) (stOk w) (.returned (.agg cs.toArray)) (W.setCells z 0 cs):=by
 have G:=D.2.cells.1;have E:=Kp.setCellsNew J cs 0 N;refine⟨F.putAll (by rw[G,H]),E,⟨cs,rfl,?_⟩,K.fin h E (heap_setCells (by omega) cs 0 W)⟩;refine StL.weak (fun c A=> (by have:=A.1;omega:w.1.size<=c)) (StL.keep (fun c o v A M=>?_) D.2);rw[<-M];simp[World.cellF,heap_setCells (w:=W) (vs:=cs) (o:=0) (show c≠z by have:=A.1;omega)]
theorem eq_fn(g:Fn)(a c:Array Value)(w:World):(binOp .eql 154 (.func g a c) .nilFunc).run Tryz.prog w= .ok (.bool false) w:=by kernel_rfl
theorem eq_nofn(w:World):(binOp .eql 154 .nilFunc .nilFunc).run Tryz.prog w= .ok (.bool true) w:=by kernel_rfl
def gsOf(T:List Wd)(k:Nat):List (St->Nat->PR St):=if k=1 then [gName T,gIs T,gExpr T] else if k=8∨k=12 then [gName T,gWith T] else if k=11 then [gName T,gExpr T] else if k=14 then [] else if k=15 then [gExpr T] else [gName T]
theorem stOf_lt(s:ByteArray):stOf s<16:=by
 unfold stOf;rcases hf:(List.range 16).find? fun k=>decide (stW.getD k noB≠noB)&&decide (stW.getD k noB=s) with _|k
 .exact Nat.zero_lt_succ _
 .have:=List.mem_of_find?_eq_some hf;simpa using this
theorem stOf_ne(s:ByteArray):stOf s≠2/\stOf s≠3:=by
 unfold stOf;rcases hf:(List.range 16).find? fun k=>decide (stW.getD k noB≠noB)&&decide (stW.getD k noB=s) with _|k
 .exact⟨by decide,by decide⟩
 .have:=List.find?_some hf;simp only[Bool.and_eq_true,decide_eq_true_eq]at this;refine⟨fun e=>?_,fun e=>?_⟩
  .have g:=e;subst g;exact this.1 z
  .have g:=e;subst g;exact this.1 z
theorem plain_eq(T:List Wd)(p:Int×Int)(k i:Nat)(h:k<16)(D:k≠0)(A:k≠2)(w:k≠3)(C:k≠4)(E:k≠5):
  (andT (gFold (gsOf T k) ((mkSt 0 p noB noB zEx zEx [] []).setKind k) i) fun st j=>gEnd T st j)=pPlain T p k i:=by
 have g:k=1∨k=6∨k=7∨k=8∨k=9∨k=10∨k=11∨k=12∨k=13∨k=14∨k=15:=by omega
 rcases g with rfl|rfl|rfl|rfl|rfl|rfl|rfl|rfl|rfl|rfl|rfl;all_goals
  simp[gsOf,pPlain,gFold,gName,gIs,gExpr,gWith,gEnd,andT_assoc,mkSt,St.setKind,St.setName,St.setWith,St.setExpr]
theorem plain_go(F:b≠0){B sb:Nat}{p:Int×Int}{R:Except Nat (St×Nat)}{fv:Value}(h:Rw w b S k)(M:Ops w)(C:Plain w b fv (stOf s) (partsOf (stOf s)))(N:Away S sb)(J:b<B)(X:B<=sb)
  (W:Sb B w sb (mkSt 0 p noB noB zEx zEx [] []))(K:stOf s≠0)(h4:¬stOf s=4)(V:¬stOf s=5)(j:pPlain S.T p (stOf s) k=some R):
  ∃H D:Nat,fv= .func (.func 110) #[] #[Pt H,Pt D]/\Calls Tryz.prog 110 #[Pt b,Pt sb,Pt H,Pt D] w (SP w b sb B S R):=by
 have U:=stOf_lt s;have E:=stOf_ne s;rw[<-plain_eq S.T p (stOf s) k U K E.1 E.2 h4 V]at j;generalize stOf s=q at *;refine plain_part (G:=gsOf S.T q) F ?_ ?_ h M C N J X W j ?_;all_goals
  have g:q=1∨q=6∨q=7∨q=8∨q=9∨q=10∨q=11∨q=12∨q=13∨q=14∨q=15:=by omega
 .have Z:=part_name (b:=b) (S:=S);have Y:=part_with (b:=b) (S:=S);have a0:=part_expr (b:=b) (S:=S) F;have Q:=part_is (b:=b) (S:=S);intro i A;rcases g with rfl|rfl|rfl|rfl|rfl|rfl|rfl|rfl|rfl|rfl|rfl;all_goals
   rcases i with _|_|_|i;all_goals first
    |exact⟨_,z,.inl z,Z⟩
    |exact⟨_,z,.inr (.inl z),Y⟩
    |exact⟨_,z,.inr (.inr (.inl z)),a0⟩
    |exact⟨_,z,.inr (.inr (.inr z)),Q⟩
    | (exfalso;simp[partsOf]at A;omega)
    | (exfalso;simp[partsOf]at A;done)
 .rcases g with rfl|rfl|rfl|rfl|rfl|rfl|rfl|rfl|rfl|rfl|rfl<;>rfl
 .rcases g with rfl|rfl|rfl|rfl|rfl|rfl|rfl|rfl|rfl|rfl|rfl<;>decide
theorem stmt_step{f:Nat}(a8:b≠0)(hB:CB b S f):CS b S (f+1):=by
 intro w k R h hO i4 HR;rw[pS]at HR;obtain⟨j1,b4,a6⟩:=under64;have d9:=h.lt;have j0:=h.mx;have j4:=h.le;have HH:=O h;have h0:=h.alloc (.cells zSt 60);have hp:=peek_any h0;have f6:=kindN S.T S.en k;obtain⟨wd,e0⟩:=eX (nextW S.T S.en k);have g7:k<S.T.length->wd=S.T.getD k default:=fun e=>by rw[<-e0];unfold nextW;rw[if_pos e]
 rw[e0]at hp f6;obtain⟨kd,E,M,C,A⟩:=wd;have HA:=O (And.intro g7 (show kd=kindAt S.T k from f6));clear e0 f6 g7 h;have g9:Blk (w.alloc (.cells zSt 60)) w.1.size 60 zSt.toList:=World.alloc_heap_new _ _;have f9:Kp w (w.alloc (.cells zSt 60)) b b:=(Kp.refl w b b).alloc _;have g5:(w.alloc (.cells zSt 60)).1.size=w.1.size+1:=by simp
 go_in;go_wp2_with fail;refine hp.mono ?_;rintro e G ⟨rfl,d4⟩;simp only[Wd.val];have h1:=h0.below d4;have h6:=g9.below d4;have h8:=f9.trans (kp_same (b:=b) d4);have i3:=d4.size;rw[g5]at i3;clear h0 g9 f9 d4 hp g5;have f2:(G.alloc (.cells #[I kd,.string E,I M,I C,I A] 142)).1.size=G.1.size+1:=by simp
 have g8:Tk (G.alloc (.cells #[.int .i64 kd,.string E,.int .i64 M,.int .i64 C,.int .i64 A] 142)) G.1.size kd E M (C,A):=World.alloc_heap_new _ _;have e9:=g8.alloc (.cells (freshC C A).toArray 60);have h2:=(h1.alloc (.cells #[I kd,.string E,I M,I C,I A] 142)).alloc (.cells (freshC C A).toArray 60);have a7:=(h6.alloc (.cells #[I kd,.string E,I M,I C,I A] 142)).alloc (.cells (freshC C A).toArray 60);have Y:=(h8.alloc (.cells #[I kd,.string E,I M,I C,I A] 142)).alloc (.cells (freshC C A).toArray 60);have V:=Sb.fresh G.1.size (G.alloc (.cells #[I kd,.string E,I M,I C,I A] 142)) C A;rw[f2]at V;have f8:=e9.c0;have t1:=e9.c1;have HE:=O (And.intro h2 (And.intro a7 (And.intro Y V)))
 clear e9 g8 h2 a7 Y V h1 h6 h8;have d3:b<G.1.size:=by omega
 by_cases f3:kd=1
 .subst f3;go_wp2_with (with_reducible refine s0 60 ?_;refine wpList_store_fresh info64 z (.tmp 4) (.tmp 12) z (G.alloc (.cells #[I 1,.string E,I M,I C,I A] 142)) zSt.toList (freshC C A) z z z (freshC_one C A) _ f2 z z ?_);obtain⟨h2,a7,Y,V⟩:=HE.o;clear HE f8 t1;obtain⟨sb,e7⟩:=eX (G.1.size+1);rw[e7]at V ⊢;generalize (G.alloc (.cells #[I 1,.string E,I M,I C,I A] 142)).alloc (.cells (freshC C A).toArray 60)=Z at *;have hA:=HH.o.away (sb:=sb) (by omega);have d5:=kind_lt S.T (i:=k) (by rw[<-HA.o.2];decide);have D:=HR;have f5:plOf S.T k=(C,A):=by unfold plOf;rw[<-HA.o.1 d5]
  rw[if_pos HA.o.2.symm,f5,<-assign_eq]at D;refine(assign_part a8 Z G.1.size sb k _ R h2 (hO.kp Y a8) hA d3 (by omega) V D).mono ?_;rintro e W3 ⟨b6,g3⟩;have b8:=Y.drop b6 (by omega);rcases R with j|⟨st,j⟩
  .obtain rfl:=g3;exact⟨z,b8,z⟩
  .obtain⟨rfl,d6,h3⟩:=g3;have i7:=d6;obtain⟨cs,J,F⟩:=i7;have d8:=a7.kp b6 (by omega) (by omega);have K:=F.cells.1;have b5:=F.cells.2;have b7:=O J;have HZ:=O d8;have N:=O (stmt_told HH.o b8 d6 h3 d8 z rl (by omega) d9 ⟨J,F⟩);clear b8 d6 h3 d8 J F b6 h2 a7 Y V hB D;go_wp2_with (first| (with_reducible refine l0 60 ?_;refine wpList_load_blk b4 a6 info64 z (.tmp 4) z sb cs z b7 K ?_)| (with_reducible refine s0 60 ?_;refine wpList_store_blk info64 z (.tmp 2) (.tmp 18) z w.1.size cs zSt.toList z z HZ z K b5 ?_));exact end_blk b4 a6 info64 N.o.1 K z z z N.o.2
 .have j5:(kd==1)=false:=by simpa using f3
  go_upto_region 6 with (with_reducible refine s0 60 ?_;refine wpList_store_fresh info64 z (.tmp 4) (.tmp 12) z (G.alloc (.cells #[I kd,.string E,I M,I C,I A] 142)) zSt.toList (freshC C A) z z z (freshC_one C A) _ f2 z z ?_);obtain⟨h2,a7,Y,V⟩:=HE.o;clear HE;obtain⟨sb,e7⟩:=eX (G.1.size+1);rw[e7]at V ⊢;generalize (G.alloc (.cells #[I kd,.string E,I M,I C,I A] 142)).alloc (.cells (freshC C A).toArray 60)=Z at *;have hA:=HH.o.away (sb:=sb) (by omega);have D:=HR;rw[if_neg (fun e=>f3 (HA.o.2.trans e))]at D;have f4:=i4.kp Y rl;obtain⟨g,l,n,i0,j2,hg,g4⟩:=f4.mp;have hv:=g4 E;obtain⟨v,a0⟩:=eX (((kfind l E).map fun p=>p.2.1).getD .nilFunc)
  have i9:∀n,(Instr.lookup 86 (.map (some g)) (.string E) false).run Tryz.prog (Z.drewN n)= .ok v (Z.drewN n):=fun m=>by rw[<-a0];exact look_fn (w:=Z.drewN m) hg E
  have c4:=h2.c4;rw[i0]at c4;go_quiet (fail);rename_i nq;have h3:=h2.drewN nq;have d6:=V.drewN nq;have d8:=a7.drewN nq;have b8:=Y.drewN nq;have h7:Kds (Z.drewN nq) b S:=f4.keep (fun _ _ _=>z);have d0:(Z.drewN nq).cell? ⟨G.1.size,0,none⟩=some (.int .i64 kd):=f8;have h9:∀s,Reads (Z.drewN nq) b (stOf s) ((kfind l s).map fun p=>p.2.1):=by
   obtain⟨g',l',n',e1,-,e2,e3⟩:=h7.mp;rw[i0]at e1;cases e1;have e4:(Z.drewN nq).1[g]? =some (.map (l.map entOf).toArray n):=hg;rw[e4]at e2;intro s;have e5:l=l':=by
    have e6:(l.map entOf)=(l'.map entOf):=by simpa using(Obj.map.inj (Option.some.inj e2)).1
    exact List.map_inj_right (fun a b e8=>by obtain⟨a1,a2,a3⟩:=a;obtain⟨b1,b2,b3⟩:=b;unfold entOf at e8;simp at e8;obtain⟨q1,q2,q3⟩:=e8;rw[q1,q2,q3])|>.1 e6
   rw[e5];exact e3 s
  have X:=h9 E;generalize Z.drewN nq=a9 at *;have c1:=h3.c1;have f1:=h3.frozen 1;by_cases b6:kd=3
  .subst b6;have d5:=kind_lt S.T (i:=k) (by rw[<-HA.o.2];decide);have i1:(S.T.getD k default).text=E:=by rw[<-HA.o.1 d5]
   have f5:plOf S.T k=(C,A):=by unfold plOf;rw[<-HA.o.1 d5]
   rw[i1,f5]at D;have i5:kindAt S.T k=3:=HA.o.2.symm;have h4:=h3.step d5;have b9:=d6.kp ((Kp.refl a9 b b).setA 1 (I ((k:Int)+1))) d3 (by omega);have c8:=d8.kp ((Kp.refl a9 b b).setA 1 (I ((k:Int)+1))) (by omega) (by omega);have c9:=h7.kp ((Kp.refl a9 b b).setA 1 (I ((k:Int)+1))) rl;have a4:=b8.setA 1 (I ((k:Int)+1));unfold Reads at X;by_cases d1:stOf E=0
   .rw[if_pos d1]at X;rw[if_pos (.inr d1)]at D;cases D;rw[X]at a0;obtain rfl:Value.nilFunc=v:=a0;have f7:=eq_nofn;go_wp2_with fail;refine(fail_any h3).mono ?_;rintro e W5 ⟨rfl,f0⟩;exact⟨z,b8.trans (kp_same f0),z⟩
   .rw[if_neg d1]at X;rw[if_neg (fun e=>e.elim (fun e=>e i5) d1)]at D;by_cases H:stOf E=5
    .rw[if_pos H]at D;rw[if_neg (by omega),if_pos H]at X;rw[X]at a0;obtain rfl:Value.func (.func 74) #[] #[]=v:=a0;have f7:=eq_fn (.func 74) #[] #[];go_wp2_with fail;generalize a9.setCell ⟨b,1,none⟩ (I ((k:Int)+1))=V4 at *;refine(while_part a8 hB V4 G.1.size sb (k+1) (mkSt 0 (C,A) noB noB zEx zEx [] []) R h4 (hO.kp a4 a8) c9 hA d3 (by omega) b9 D).mono ?_;rintro e W5 ⟨U,a5⟩;have W:=a4.drop U (by omega);rcases R with j|⟨st,j⟩
     .obtain rfl:=a5;exact⟨z,W,z⟩
     .obtain⟨rfl,H,h5⟩:=a5;have d7:=H;obtain⟨cs,J,F⟩:=d7;have Q:=c8.kp U (by omega) (by omega);have K:=F.cells.1;have b5:=F.cells.2;have b7:=O J;have HZ:=O Q;have N:=O (stmt_told HH.o W H h5 Q z rl (by omega) d9 ⟨J,F⟩);go_wp2_with (first| (with_reducible refine l0 60 ?_;refine wpList_load_blk b4 a6 info64 z (.tmp 4) z sb cs z b7 K ?_)| (with_reducible refine s0 60 ?_;refine wpList_store_blk info64 z (.tmp 2) (.tmp 49) z w.1.size cs zSt.toList z z HZ z K b5 ?_));exact end_blk b4 a6 info64 N.o.1 K z z z N.o.2
    .rw[if_neg H]at D;by_cases d2:stOf E=4
     .rw[if_pos d2]at D;rw[if_pos d2]at X;rw[X]at a0;obtain rfl:Value.func (.func 71) #[] #[]=v:=a0;have f7:=eq_fn (.func 71) #[] #[];go_wp2_with fail;generalize a9.setCell ⟨b,1,none⟩ (I ((k:Int)+1))=V4 at *;refine(if_part a8 hB V4 G.1.size sb (k+1) (mkSt 0 (C,A) noB noB zEx zEx [] []) R h4 (hO.kp a4 a8) c9 hA d3 (by omega) b9 D).mono ?_;rintro e W5 ⟨U,a5⟩;have W:=a4.drop U (by omega);rcases R with j|⟨st,j⟩
      .obtain rfl:=a5;exact⟨z,W,z⟩
      .obtain⟨rfl,H,h5⟩:=a5;have d7:=H;obtain⟨cs,J,F⟩:=d7;have Q:=c8.kp U (by omega) (by omega);have K:=F.cells.1;have b5:=F.cells.2;have b7:=O J;have HZ:=O Q;have N:=O (stmt_told HH.o W H h5 Q z rl (by omega) d9 ⟨J,F⟩);go_wp2_with (first| (with_reducible refine l0 60 ?_;refine wpList_load_blk b4 a6 info64 z (.tmp 4) z sb cs z b7 K ?_)| (with_reducible refine s0 60 ?_;refine wpList_store_blk info64 z (.tmp 2) (.tmp 49) z w.1.size cs zSt.toList z z HZ z K b5 ?_));exact end_blk b4 a6 info64 N.o.1 K z z z N.o.2
     .rw[if_neg d2]at D;rw[if_neg d2,if_neg H]at X;obtain⟨fv,i8,hP⟩:=X;rw[i8]at a0;obtain rfl:fv=v:=a0;have g6:=hP.keep (w':=a9.setCell ⟨b,1,none⟩ (I ((k:Int)+1))) (fun c hc J=> ((Kp.refl a9 b b).setA 1 (I ((k:Int)+1))).block c hc (by omega) (by omega));obtain⟨g1,g2,i6,i2⟩:=plain_go a8 h4 (hO.kp a4 a8) g6 hA d3 (by omega) b9 d1 d2 H D;subst i6;have f7:=eq_fn (.func 110) #[] #[Pt g1,Pt g2];go_wp2_with fail;generalize a9.setCell ⟨b,1,none⟩ (I ((k:Int)+1))=V4 at *;refine(i2).mono ?_;rintro e W5 ⟨U,a5⟩;have W:=a4.drop U (by omega);rcases R with j|⟨st,j⟩
      .obtain rfl:=a5;exact⟨z,W,z⟩
      .obtain⟨rfl,H,h5⟩:=a5;have d7:=H;obtain⟨cs,J,F⟩:=d7;have Q:=c8.kp U (by omega) (by omega);have K:=F.cells.1;have b5:=F.cells.2;have b7:=O J;have HZ:=O Q;have N:=O (stmt_told HH.o W H h5 Q z rl (by omega) d9 ⟨J,F⟩);go_wp2_with (first| (with_reducible refine l0 60 ?_;refine wpList_load_blk b4 a6 info64 z (.tmp 4) z sb cs z b7 K ?_)| (with_reducible refine s0 60 ?_;refine wpList_store_blk info64 z (.tmp 2) (.tmp 49) z w.1.size cs zSt.toList z z HZ z K b5 ?_));exact end_blk b4 a6 info64 N.o.1 K z z z N.o.2
  .have j3:(kd !=3)=true:=by simpa using b6
   rw[if_pos (.inl (fun e=>b6 (HA.o.2.trans e)))]at D;cases D;go_wp2_with fail;refine(fail_any h3).mono ?_;rintro e W5 ⟨rfl,f0⟩;exact⟨z,b8.trans (kp_same f0),z⟩
theorem stmt_all(D:b≠0):∀f,(∀g,g<=f->CB b S g)/\(∀g,g<=f->CS b S g):=by
 intro f;induction f with
 |zero=>
  refine⟨fun g A=>?_,fun g A=>?_⟩
  .obtain rfl:g=0:=by omega
   intro w k R h H G j;rw[pB_zero]at j;cases j
  .obtain rfl:g=0:=by omega
   intro w k R h H G j;rw[pS_zero]at j;cases j
 |succ f F=>
  obtain⟨C,E⟩:=F;refine⟨fun g A=>?_,fun g A=>?_⟩
  .by_cases h:g<=f
   .exact C g h
   .obtain rfl:g=f+1:=by omega
    exact block_step D E
  .by_cases h:g<=f
   .exact E g h
   .obtain rfl:g=f+1:=by omega
    exact stmt_step D (C f rl)
theorem block_any(A:b≠0)(h:Rw w b S k)(j:Ops w)(g:Kds w b S){R:Except Nat (List St×Nat)}(C:pBlk S.T k=some R):
  Calls Tryz.prog 72 #[Pt b] w (WP w b S R (blkOk w)):=(stmt_all A (3*S.T.length+3)).1 _ rl w k R h j g C
theorem plain_any{kind:Nat}{cap:Nat}{g:List FuncId}(h:∀i,i<g.length->∃j A,a=some ⟨j,A,none⟩/\w.cell? ⟨j,A+i,none⟩=some (.func (.func (g.getD i 0)) #[] #[]))(n:Nat)(E:g.length=n):
  Calls Tryz.prog 70 #[I kind,.slice a n cap] w fun e w'=>∃v,e= .returned v/\bL w w'/\Plain w' w'.1.size v kind g:=by
 subst E;go_in;go_wp2;go_ret;refine⟨_,z,((Below.refl _ w).alloc rl _).alloc (by simp) _,w.1.size,w.1.size+1,a,cap,z,by simp;omega,?_,by simp,?_,fun i H=>?_⟩
 .exact((Blk.new w 53 [I kind]).alloc (.cells #[.slice a g.length cap] 195)).cell 0
 .simp
 .obtain⟨j,A,G,C⟩:=h i H;have D:=World.block_lt_of_cell? w _ C;have F:j<w.1.size:=D;refine⟨j,A,G,by simp;omega,?_⟩;rw[<-C];have J:=(((Below.refl _ w).alloc rl (.cells #[I kind] 53)).alloc (by simp) (.cells #[.slice a g.length cap] 195)).block j F;simp only[World.cell?,J]
theorem Reads.move{w':World}{b':Nat}{v:Option Value}(h:Reads w b k v)(X:b<=b')(g:∀ (c o:Nat) (u:Value),c<b->w.cell? ⟨c,o,none⟩=some u->w'.cell? ⟨c,o,none⟩=some u):Reads w' b' k v:=by
 unfold Reads at h ⊢;split
 .rw[if_pos (by assumption)]at h;exact h
 rename_i F;rw[if_neg F]at h;split
 .rw[if_pos (by assumption)]at h;exact h
 rename_i G;rw[if_neg G]at h;split
 .rw[if_pos (by assumption)]at h;exact h
 rename_i R;rw[if_neg R]at h;obtain⟨fv,D,W,M,a,cap,Q,U,V,K,H,N⟩:=h;refine⟨fv,D,W,M,a,cap,Q,by omega,g _ _ _ U V,by omega,g _ _ _ K H,fun i J=>?_⟩;obtain⟨j,C,E,S,A⟩:=N i J;exact⟨j,C,E,by omega,g _ _ _ S A⟩
structure KMs (w0 w:World) (g:Nat) (ks:List Nat):Prop where
 blw:Below w0.1.size w0 w
 g0:w0.1.size<=g
 mp:∃ (l:Ents) (n:Nat),w.1[g]? =some (.map (l.map entOf).toArray n)/\l.map (fun p=>p.1)=ks.map (fun k=>stW.getD k noB)/\∀ (i:Nat) (p:ByteArray×Value×Nat) (k:Nat),l[i]? =some p->ks[i]? =some k->Reads w w.1.size k (some p.2.1)
theorem KMs.below{w':World}{A:List Nat}(h:KMs w0 w g A)(j:bL w w'):KMs w0 w' g A:=by obtain⟨l,n,C,G,F⟩:=h.mp;have J:=h.blw.size;refine⟨h.blw.trans (j.mono J),h.g0,l,n,(j.block g (Array.getElem?_eq_some_iff.1 C).1).trans C,G,fun i p k E H=> (F i p k E H).move j.size (fun c o u K D=>?_)⟩;rw[<-D];simp[World.cell?,j.block c K]
theorem KMs.put{E:List Nat}(h:KMs w0 w g E)(hv:Reads w w.1.size k (some v))(s:ByteArray)(Z:s=stW.getD k noB)(U:(E.all fun j=>decide (stW.getD j noB≠s))=true):
  ∃W,(Instr.mapUpdate 86 (.map (some g)) (.string s) v).run Tryz.prog w= .ok () W/\KMs w0 W g (E++[k])/\W.1.size=w.1.size:=by
 obtain⟨l,n,F,G,R⟩:=h.mp;have Y:kfind l s=none:=by unfold kfind;rw[List.find?_eq_none];intro p A;have N:p.1∈l.map (fun p=>p.1):=List.mem_map_of_mem A;rw[G]at N;obtain⟨j,D,a2⟩:=List.mem_map.1 N;have Q:=List.all_eq_true.1 U j D;simp only[decide_eq_true_eq]at Q;simp only[decide_eq_true_eq];intro e;exact Q (a2.trans e)
 have X:=(Array.getElem?_eq_some_iff.1 F).1;refine⟨_,put_fn F s v Y,?_,by simp⟩;have V:({w with heap:=w.1.setIfInBounds g (.map ((l++[(s,v,n)]).map entOf).toArray (n+1))}:World).1[g]? =some (.map ((l++[(s,v,n)]).map entOf).toArray (n+1)):=by show (w.1.setIfInBounds g _)[g]? =_;rw[Array.getElem?_setIfInBounds];simp[X]
 have K:∀c,c≠g->({w with heap:=w.1.setIfInBounds g (.map ((l++[(s,v,n)]).map entOf).toArray (n+1))}:World).1[c]? =w.1[c]? :=fun c C=>by show (w.1.setIfInBounds g _)[c]? =_;rw[Array.getElem?_setIfInBounds];simp[Ne.symm C]
 have J:∀ (c o:Nat) (u:Value),c<w.1.size->w.cell? ⟨c,o,none⟩=some u->({w with heap:=w.1.setIfInBounds g (.map ((l++[(s,v,n)]).map entOf).toArray (n+1))}:World).cell? ⟨c,o,none⟩=some u:=fun c o u _ M=>by
  by_cases C:c=g
  .subst C;simp[World.cell?,F]at M
  .rw[<-M];simp only[World.cell?];rw[K c C]
 refine⟨⟨h.blw.os,h.blw.tape,h.blw.output,by simpa using h.blw.size,fun c C=> (K c (by have:=h.g0;omega)).trans (h.blw.block c C)⟩,h.g0,_,_,V,by simp[G,Z],fun i p j A D=>?_⟩;have S:l.length=E.length:=by have:=congrArg List.length G;simpa using this
 rcases Nat.lt_or_ge i l.length with H|H
 .rw[List.getElem?_append_left H]at A;rw[List.getElem?_append_left (by omega)]at D;exact(R i p j A D).move (by simp) J
 .have a3:i<l.length+1:=by have:=(List.getElem?_eq_some_iff.1 A).1;simpa using this
  obtain rfl:i=l.length:=by omega
  rw[List.getElem?_append_right rl]at A;rw[List.getElem?_append_right (by omega)]at D;have a1:p=(s,v,n):=by simpa using A.symm
  have a0:j=k:=by simpa [S]using D.symm
  subst a1;subst a0;exact hv.move (by simp) J
def kOrder:List Nat:=[1,6,7,8,9,10,11,12,13,14,15,4,5]
theorem kOrder_of:∀k,k<16->stW.getD k noB≠noB->k∈kOrder:=by decide
theorem stOf_kw:∀k∈kOrder,stOf (stW.getD k noB)=k:=by decide
theorem KMs.reads(h:KMs w0 w g kOrder):∃ (l:Ents) (n:Nat),w.1[g]? =some (.map (l.map entOf).toArray n)/\∀s,Reads w w.1.size (stOf s) ((kfind l s).map fun p=>p.2.1):=by
 obtain⟨l,n,R,F,Q⟩:=h.mp;refine⟨l,n,R,fun s=>?_⟩;have S:l.length=kOrder.length:=by have:=congrArg List.length F;simpa using this
 rcases hf:kfind l s with _|p
 .have N:stOf s=0:=by
   unfold stOf;rcases hg:(List.range 16).find? fun k=>decide (stW.getD k noB≠noB)&&decide (stW.getD k noB=s) with _|k
   .rfl
   .have G:=List.mem_of_find?_eq_some hg;have j:=List.find?_some hg;simp only[Bool.and_eq_true,decide_eq_true_eq]at j;have A:=kOrder_of k (by simpa using G) j.1;have C:stW.getD k noB∈l.map (fun p=>p.1):=by rw[F];exact List.mem_map_of_mem (f:=fun k=>stW.getD k noB) A
    obtain⟨p,E,D⟩:=List.mem_map.1 C;unfold kfind at hf;have K:=List.find?_eq_none.1 hf p E;simp only[decide_eq_true_eq]at K;exact absurd (D.trans j.2) K
  unfold Reads;rw[if_pos N];rfl
 .unfold kfind at hf;have E:=List.mem_of_find?_eq_some hf;have D:=List.find?_some hf;simp only[decide_eq_true_eq]at D;obtain⟨i,J,H⟩:=List.mem_iff_getElem.1 E;have M:kOrder[i]? =some (kOrder[i]'(by omega)):=List.getElem?_eq_getElem (by omega);have G:=Q i p _ (by rw[<-H];exact List.getElem?_eq_getElem J) M;have j:p.1=stW.getD (kOrder[i]'(by omega)) noB:=by
   have A:(l.map (fun p=>p.1))[i]? =(kOrder.map (fun k=>stW.getD k noB))[i]? :=by rw[F]
   rw[List.getElem?_map,List.getElem?_map,M,List.getElem?_eq_getElem J,H]at A;simpa using A
  have C:=stOf_kw _ (List.getElem_mem (by omega:i<kOrder.length));rw[<-j,D]at C;rw[C];exact G
theorem kinds_any(w:World):Calls Tryz.prog 31 #[] w fun e w'=>∃g,e= .returned (.map (some g))/\KMs w w' g kOrder:=by
 have j:Hid (KMs w (w.alloc (.map #[] 0)) w.1.size []):=O ⟨(Below.refl _ w).alloc rl _,rl,[],0,World.alloc_heap_new _ _,z,fun i p k h=>by simp at h⟩;have j4:(Instr.makeMap 86 none).run Tryz.prog w= .ok (.map (some w.1.size)) (w.alloc (.map #[] 0)):=by kernel_rfl
 go_in;go_wp2_with fail;obtain⟨g,hg⟩:=eX (w.1.size);rw[hg]at j ⊢;have a2:∀i,i< [63,68,66].length->∃A C,(some ⟨(w.alloc (.map #[] 0)).1.size,0,none⟩:Option Addr)=some ⟨A,C,none⟩/\((w.alloc (.map #[] 0)).alloc (.cells #[.func (.func 63) #[] #[],.func (.func 68) #[] #[],.func (.func 66) #[] #[]] 154)).cell? ⟨A,C+i,none⟩=some (.func (.func (([63,68,66]:List FuncId).getD i 0)) #[] #[]):=fun i D=>by
  refine⟨_,0,z,?_⟩;rw[(Blk.new (w.alloc (.map #[] 0)) 154 [.func (.func 63) #[] #[],.func (.func 68) #[] #[],.func (.func 66) #[] #[]]).cell];rcases i with _|_|_|i
  .rfl
  .rfl
  .rfl
  .simp at D;try omega
 have Z:Below (w.alloc (.map #[] 0)).1.size (w.alloc (.map #[] 0)) ((w.alloc (.map #[] 0)).alloc (.cells #[.func (.func 63) #[] #[],.func (.func 68) #[] #[],.func (.func 66) #[] #[]] 154)):=(Below.refl _ _).alloc rl _;have h6:(w.alloc (.map #[] 0)).1.size=g+1:=by rw[<-hg];simp
 rw[h6]at a2;refine(plain_any (kind:=1) a2 3 z).mono ?_;rintro e V0 ⟨v0,rfl,f6,a6⟩;have g2:=j.below (Z.trans (f6.mono Z.size));obtain⟨F,i5,e7,-⟩:=g2.put (k:=1) (v:=v0) ⟨v0,z,a6⟩ ⟨#[108,101,116]⟩ z (by decide);have j:=O e7;go_wp2_with fail;have e6:∀i,i< [63].length->∃A C,(some ⟨F.1.size,0,none⟩:Option Addr)=some ⟨A,C,none⟩/\(F.alloc (.cells #[.func (.func 63) #[] #[]] 154)).cell? ⟨A,C+i,none⟩=some (.func (.func (([63]:List FuncId).getD i 0)) #[] #[]):=fun i D=>by
  refine⟨_,0,z,?_⟩;rw[(Blk.new F 154 [.func (.func 63) #[] #[]]).cell];rcases i with _|i
  .rfl
  .simp at D;try omega
 have V:bL F (F.alloc (.cells #[.func (.func 63) #[] #[]] 154)):=(Below.refl _ _).alloc rl _;refine(plain_any (kind:=6) e6 1 z).mono ?_;rintro e V1 ⟨v1,rfl,e5,a7⟩;have d0:=j.below (V.trans (e5.mono V.size));obtain⟨J,h8,a8,-⟩:=d0.put (k:=6) (v:=v1) ⟨v1,z,a7⟩ ⟨#[108,111,99,107]⟩ z (by decide);have j:=O a8;go_wp2_with fail;have e3:∀i,i< [63].length->∃A C,(some ⟨J.1.size,0,none⟩:Option Addr)=some ⟨A,C,none⟩/\(J.alloc (.cells #[.func (.func 63) #[] #[]] 154)).cell? ⟨A,C+i,none⟩=some (.func (.func (([63]:List FuncId).getD i 0)) #[] #[]):=fun i D=>by
  refine⟨_,0,z,?_⟩;rw[(Blk.new J 154 [.func (.func 63) #[] #[]]).cell];rcases i with _|i
  .rfl
  .simp at D;try omega
 have a4:bL J (J.alloc (.cells #[.func (.func 63) #[] #[]] 154)):=(Below.refl _ _).alloc rl _;refine(plain_any (kind:=7) e3 1 z).mono ?_;rintro e V2 ⟨v2,rfl,d1,g8⟩;have g5:=j.below (a4.trans (d1.mono a4.size));obtain⟨N,i7,g4,-⟩:=g5.put (k:=7) (v:=v2) ⟨v2,z,g8⟩ ⟨#[117,110,108,111,99,107]⟩ z (by decide);have j:=O g4;go_wp2_with fail;have a9:∀i,i< [63,65].length->∃A C,(some ⟨N.1.size,0,none⟩:Option Addr)=some ⟨A,C,none⟩/\(N.alloc (.cells #[.func (.func 63) #[] #[],.func (.func 65) #[] #[]] 154)).cell? ⟨A,C+i,none⟩=some (.func (.func (([63,65]:List FuncId).getD i 0)) #[] #[]):=fun i D=>by
  refine⟨_,0,z,?_⟩;rw[(Blk.new N 154 [.func (.func 63) #[] #[],.func (.func 65) #[] #[]]).cell];rcases i with _|_|i
  .rfl
  .rfl
  .simp at D;try omega
 have W:bL N (N.alloc (.cells #[.func (.func 63) #[] #[],.func (.func 65) #[] #[]] 154)):=(Below.refl _ _).alloc rl _;refine(plain_any (kind:=8) a9 2 z).mono ?_;rintro e V3 ⟨v3,rfl,d9,h1⟩;have b9:=j.below (W.trans (d9.mono W.size));obtain⟨M,j0,h2,-⟩:=b9.put (k:=8) (v:=v3) ⟨v3,z,h1⟩ ⟨#[119,97,105,116]⟩ z (by decide);have j:=O h2;go_wp2_with fail;have d2:∀i,i< [63].length->∃A C,(some ⟨M.1.size,0,none⟩:Option Addr)=some ⟨A,C,none⟩/\(M.alloc (.cells #[.func (.func 63) #[] #[]] 154)).cell? ⟨A,C+i,none⟩=some (.func (.func (([63]:List FuncId).getD i 0)) #[] #[]):=fun i D=>by
  refine⟨_,0,z,?_⟩;rw[(Blk.new M 154 [.func (.func 63) #[] #[]]).cell];rcases i with _|i
  .rfl
  .simp at D;try omega
 have X:bL M (M.alloc (.cells #[.func (.func 63) #[] #[]] 154)):=(Below.refl _ _).alloc rl _;refine(plain_any (kind:=9) d2 1 z).mono ?_;rintro e V4 ⟨v4,rfl,f2,d3⟩;have g7:=j.below (X.trans (f2.mono X.size));obtain⟨Q,h9,e1,-⟩:=g7.put (k:=9) (v:=v4) ⟨v4,z,d3⟩ ⟨#[115,105,103,110,97,108]⟩ z (by decide);have j:=O e1;go_wp2_with fail;have e8:∀i,i< [63].length->∃A C,(some ⟨Q.1.size,0,none⟩:Option Addr)=some ⟨A,C,none⟩/\(Q.alloc (.cells #[.func (.func 63) #[] #[]] 154)).cell? ⟨A,C+i,none⟩=some (.func (.func (([63]:List FuncId).getD i 0)) #[] #[]):=fun i D=>by
  refine⟨_,0,z,?_⟩;rw[(Blk.new Q 154 [.func (.func 63) #[] #[]]).cell];rcases i with _|i
  .rfl
  .simp at D;try omega
 have U:bL Q (Q.alloc (.cells #[.func (.func 63) #[] #[]] 154)):=(Below.refl _ _).alloc rl _;refine(plain_any (kind:=10) e8 1 z).mono ?_;rintro e V5 ⟨v5,rfl,d8,f1⟩;have b6:=j.below (U.trans (d8.mono U.size));obtain⟨H,h7,h3,-⟩:=b6.put (k:=10) (v:=v5) ⟨v5,z,f1⟩ ⟨#[97,108,108]⟩ z (by decide);have j:=O h3;go_wp2_with fail;have d6:∀i,i< [63,66].length->∃A C,(some ⟨H.1.size,0,none⟩:Option Addr)=some ⟨A,C,none⟩/\(H.alloc (.cells #[.func (.func 63) #[] #[],.func (.func 66) #[] #[]] 154)).cell? ⟨A,C+i,none⟩=some (.func (.func (([63,66]:List FuncId).getD i 0)) #[] #[]):=fun i D=>by
  refine⟨_,0,z,?_⟩;rw[(Blk.new H 154 [.func (.func 63) #[] #[],.func (.func 66) #[] #[]]).cell];rcases i with _|_|i
  .rfl
  .rfl
  .simp at D;try omega
 have Y:bL H (H.alloc (.cells #[.func (.func 63) #[] #[],.func (.func 66) #[] #[]] 154)):=(Below.refl _ _).alloc rl _;refine(plain_any (kind:=11) d6 2 z).mono ?_;rintro e V6 ⟨v6,rfl,f3,h4⟩;have f7:=j.below (Y.trans (f3.mono Y.size));obtain⟨K,i9,f8,-⟩:=f7.put (k:=11) (v:=v6) ⟨v6,z,h4⟩ ⟨#[115,101,110,100]⟩ z (by decide);have j:=O f8;go_wp2_with fail;have b4:∀i,i< [63,65].length->∃A C,(some ⟨K.1.size,0,none⟩:Option Addr)=some ⟨A,C,none⟩/\(K.alloc (.cells #[.func (.func 63) #[] #[],.func (.func 65) #[] #[]] 154)).cell? ⟨A,C+i,none⟩=some (.func (.func (([63,65]:List FuncId).getD i 0)) #[] #[]):=fun i D=>by
  refine⟨_,0,z,?_⟩;rw[(Blk.new K 154 [.func (.func 63) #[] #[],.func (.func 65) #[] #[]]).cell];rcases i with _|_|i
  .rfl
  .rfl
  .simp at D;try omega
 have a1:bL K (K.alloc (.cells #[.func (.func 63) #[] #[],.func (.func 65) #[] #[]] 154)):=(Below.refl _ _).alloc rl _;refine(plain_any (kind:=12) b4 2 z).mono ?_;rintro e V7 ⟨v7,rfl,b5,e2⟩;have c8:=j.below (a1.trans (b5.mono a1.size));obtain⟨E,i6,g1,-⟩:=c8.put (k:=12) (v:=v7) ⟨v7,z,e2⟩ ⟨#[114,101,99,118]⟩ z (by decide);have j:=O g1;go_wp2_with fail;have b7:∀i,i< [63].length->∃A C,(some ⟨E.1.size,0,none⟩:Option Addr)=some ⟨A,C,none⟩/\(E.alloc (.cells #[.func (.func 63) #[] #[]] 154)).cell? ⟨A,C+i,none⟩=some (.func (.func (([63]:List FuncId).getD i 0)) #[] #[]):=fun i D=>by
  refine⟨_,0,z,?_⟩;rw[(Blk.new E 154 [.func (.func 63) #[] #[]]).cell];rcases i with _|i
  .rfl
  .simp at D;try omega
 have S:bL E (E.alloc (.cells #[.func (.func 63) #[] #[]] 154)):=(Below.refl _ _).alloc rl _;refine(plain_any (kind:=13) b7 1 z).mono ?_;rintro e V8 ⟨v8,rfl,e9,f0⟩;have b8:=j.below (S.trans (e9.mono S.size));obtain⟨R,i3,e4,-⟩:=b8.put (k:=13) (v:=v8) ⟨v8,z,f0⟩ ⟨#[115,112,97,119,110]⟩ z (by decide);have j:=O e4;go_wp2_with fail;have a5:∀i,i< ([]:List FuncId).length->∃A C,(none:Option Addr)=some ⟨A,C,none⟩/\R.cell? ⟨A,C+i,none⟩=some (.func (.func (([]:List FuncId).getD i 0)) #[] #[]):=fun i D=>by simp at D
 have a0:bL R R:=Below.refl _ _;refine(plain_any (kind:=14) a5 0 z).mono ?_;rintro e V9 ⟨v9,rfl,f4,h5⟩;have c9:=j.below (a0.trans (f4.mono a0.size));obtain⟨G,i4,g9,-⟩:=c9.put (k:=14) (v:=v9) ⟨v9,z,h5⟩ ⟨#[106,111,105,110]⟩ z (by decide);have j:=O g9;go_wp2_with fail;have h0:∀i,i< [66].length->∃A C,(some ⟨G.1.size,0,none⟩:Option Addr)=some ⟨A,C,none⟩/\(G.alloc (.cells #[.func (.func 66) #[] #[]] 154)).cell? ⟨A,C+i,none⟩=some (.func (.func (([66]:List FuncId).getD i 0)) #[] #[]):=fun i D=>by
  refine⟨_,0,z,?_⟩;rw[(Blk.new G 154 [.func (.func 66) #[] #[]]).cell];rcases i with _|i
  .rfl
  .simp at D;try omega
 have a3:bL G (G.alloc (.cells #[.func (.func 66) #[] #[]] 154)):=(Below.refl _ _).alloc rl _;refine(plain_any (kind:=15) h0 1 z).mono ?_;rintro e j3 ⟨f9,rfl,f5,d7⟩;have g6:=j.below (a3.trans (f5.mono a3.size));obtain⟨i8,j2,e0,-⟩:=g6.put (k:=15) (v:=f9) ⟨f9,z,d7⟩ ⟨#[112,114,105,110,116]⟩ z (by decide);have j:=O e0;obtain⟨i1,i0,d4,-⟩:=j.put (k:=4) (v:= .func (.func 71) #[] #[]) z ⟨#[105,102]⟩ z (by decide);have j:=O d4;obtain⟨j1,i2,d5,-⟩:=j.put (k:=5) (v:= .func (.func 74) #[] #[]) z ⟨#[119,104,105,108,101]⟩ z (by decide);have j:=O d5;go_wp2;go_ret;exact⟨g,z,j⟩
def dropS:Nat->Code->Code
 |0,c=>c
 |n+1,.seq _ c=>dropS n c
 |_,c=>c
end Go.Proofs.YtgppcdfgdaggjaaGreatDoor
