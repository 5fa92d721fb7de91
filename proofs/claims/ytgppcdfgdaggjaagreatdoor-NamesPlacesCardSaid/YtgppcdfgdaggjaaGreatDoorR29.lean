/- Texts laid together. No condition but what each law says. -/
import Derived.Test.YtgppcdfgdaggjaaGreatDoorR28
set_option maxRecDepth 100000
set_option maxHeartbeats 8000000
namespace Go.Proofs.YtgppcdfgdaggjaaGreatDoor
open Go.RowKit Go.Maps
variable {V W w w0:World}{b c g i j m n n0 n2:Nat}{a a0 a1:Option Addr}{s t:ByteArray}{l2 l3 l4 l5:List Value}{v v0 v1:Value}{F:PF}{B0:St}
theorem ex_kp{F:Nat}(D:F<w.1.size/\g<w.1.size)(A:Kp W V F g){cs:List Value}{x:Ex}(h:ExL (w.1.size+2<=·) W cs x):ExL (w.1.size+2<=·) V cs x:=h.keep fun c o u j C=>by have E:=j;exact kp_cell A (by omega) (by omega) C
theorem sts_kp{F:Nat}(D:F<w.1.size/\g<w.1.size)(A:Kp W V F g){l:List St}(h:StsL (w.1.size+2<=·) W a 0 l):StsL (w.1.size+2<=·) V a 0 l:=StsL.keep (fun c o u j C=>by have E:=j;exact kp_cell A (by omega) (by omega) C) h
theorem Ch.exW(j:Ch b W V)(D:b<w.1.size+2){cs:List Value}{x:Ex}(h:ExL (w.1.size+2<=·) W cs x):ExL (w.1.size+2<=·) V cs x:=h.keep fun c o u g A=>by have C:=g;rw[j.cellF (by omega)];exact A
theorem Ch.stsW(j:Ch b W V)(D:b<w.1.size+2){l:List St}(h:StsL (w.1.size+2<=·) W a 0 l):StsL (w.1.size+2<=·) V a 0 l:=StsL.keep (fun c o u g A=>by have C:=g;rw[j.cellF (by omega)];exact A) h
theorem pst_end{F h:Nat}{fc:List Value}{D:PF}{k l c:Int}{x y:Ex}{body els:List St}{id sl ot:Int}{lo:Bool}(HI:Hid (PIv D))(HS:Hid (Xs w0 w F g h fc D (stC k l c s t l2 l3 (.slice a0 body.length j) (.slice a1 els.length n0) id sl ot lo) W))
  (HX:Hid (ExL (w.1.size+2<=·) W l2 x))(HY:Hid (ExL (w.1.size+2<=·) W l3 y))(HB:Hid (Roomy body.length j/\StsL (fun _=>True) w0 a0 0 body))(HE:Hid (Roomy els.length n0/\StsL (fun _=>True) w0 a1 0 els))(IB:Hid (BlkC w0 F g h fc body))(IE:Hid (BlkC w0 F g h fc els)){R:Except Flw (St×Nat×Nat)}
  (HR:Hid (R=stTl D.L D.loc D.n D.mo (fun b e=> .mk k l c s t x y b e id sl ot lo) body els))(hU:l4.length=105:=by rfl):
  Code.wp Tryz.prog (dropS 8 (Tryz.f117.body.getD .skip)) (bodyPost Tryz.prog Tryz.f117 (SPp w F g h fc D R)) ⟨(Pt F::v0::v1::Pt w.1.size::Pt (w.1.size+1)::l4).toArray,[]⟩ W:=by
 revert l4;apply aN;iterate 105 intro _
 change Code.wp _ _ _ _ _;obtain⟨h9,d9,g2⟩:=under60;have h7:Tryz.prog.follows .mixedOrders=true:=by kernel_rfl
 have Z:=O HX.cells;have a6:=O HY.cells;have J:=O HS.lt;have f7:=O (fSts_n body D.L D.loc D.n D.mo);have A:=HR.o;unfold stTl at A;have f0:=O A;have e7:=O (fSt_len body D.L D.loc D.n D.mo);have b8:=O (stC_at z Z.1 a6.1 (C:=stC k l c s t l2 l3 (.slice a0 body.length j) (.slice a1 els.length n0) id sl ot lo));have d0:Hid ((stC k l c s t l2 l3 (.slice a0 body.length j) (.slice a1 els.length n0) id sl ot lo).length=25):=O (by simp[stC,Z.o.1,a6.o.1]);clear HR A;have g3:=O (fun G=>IB D a0 j G HB.1 HB.2);have f4:=O (fun D2 G=>IE D2 a1 n0 G HE.1 HE.2);clear IB IE HB HE;obtain⟨NB,d4⟩:=eX (body.length);obtain⟨NE,d1⟩:=eX (els.length);rw[d4]at HS b8 d0;rw[d1]at HS b8 d0;try simp only[d4]at g3
 try simp only[d1]at f4
 clear d4 d1;conv in (dropS _ _)=>whnf
 refine wk fun KK e5=>?_;obtain⟨G,hV⟩:=eX (W.drew);have N:Hid (Xs w0 w F g h fc D (stC k l c s t l2 l3 (.slice a0 NB j) (.slice a1 NE n0) id sl ot lo) G):=O (by rw[<-hV];exact HS.below (Below.refl _ W).drew);have g1:Hid (ExL (w.1.size+2<=·) G l2 x):=O (by rw[<-hV];exact HX.keep fun b o v _ hv=>below_cell (Below.refl _ W).drew b o v hv);have g7:Hid (ExL (w.1.size+2<=·) G l3 y):=O (by rw[<-hV];exact HY.keep fun b o v _ hv=>below_cell (Below.refl _ W).drew b o v hv);clear HS HX HY;go_wp2;apply wp_region_x [9,10,11] (fun W=>Blk W w.1.size 60 (stC k l c s t l2 l3 (.slice a0 NB j) (.slice a1 NE n0) id sl ot lo)) h7;rw[hV];clear hV;have U:=O N.s;refine ak 0 ?_
 refine af _ 2 (fun W1 d7=> (d7.cell 19).trans b8.o.2.2.2.2.2.1) ?_;refine ag 4 ?_;refine nm ?_;refine ag 5 ?_;refine af _ 6 (fun W1 d7=> (d7.cell 20).trans b8.o.2.2.2.2.2.2.1) ?_;refine nm ?_;refine oD 3 fun K E=>?_;go_simp;apply (g3 G N.b N.f HI).mono;rintro e V2 ⟨a8,M⟩;obtain⟨r,hr⟩:=eX (fSts D.L D.loc D.n D.mo body);have A:=f0.o;have d5:=f7.o;have f9:=e7.o;rw[hr]at M A d5 f9;clear hr f0 f7 e7;rcases r with er|⟨b',n2,f1⟩
 .obtain⟨rfl,n3,d2,H⟩:=M;rw[A];exact⟨z,(N.call a8 H).k,z,n3,d2,H⟩
 obtain⟨H,Y,a5,rfl,e4,g5⟩:=M;have e6:=O A;have f6:Hid (PIv {D with n:=n2,mo:=f1}):=O ⟨HI.1,d5 _ _ _ z HI.2⟩;have Q:=O (N.call a8 H);have f8:=O (ex_kp ⟨J.1.1,J.1.2.1⟩ a8 g1);have e3:=O (ex_kp ⟨J.1.1,J.1.2.1⟩ a8 g7);have d8:Hid (Roomy b'.length a5/\StsL (w.1.size+2<=·) V2 Y 0 b'):=O ⟨e4,StsL.weak (fun c V=>by have h2:=V;have:=N.sz;show w.1.size+2<=c;omega) g5⟩;have e9:=O Q.s;apply E _ _ (fun _=>e9);clear E K A d5 f9 a8 H e4 g5 N g1 g7 U HI;refine oD 7 fun K E=>?_;go_simp;apply (f4 _ V2 Q.b Q.f f6).mono;rintro e V3 ⟨a4,M⟩;obtain⟨r,hr⟩:=eX (fSts D.L D.loc n2 f1 els);have A:=e6.o;simp only at A M;rw[hr]at M A;clear hr e6;rcases r with er|⟨c',n4,h0⟩
 .obtain⟨rfl,n3,d2,H⟩:=M;rw[A];exact⟨z,(Q.call a4 H).k,z,n3,d2,H⟩
 obtain⟨H,a3,b5,rfl,f2,e0⟩:=M;have g9:=O A;have c8:=O (Q.call a4 H);have f5:=O (ex_kp ⟨J.1.1,J.1.2.1⟩ a4 f8);have f3:=O (ex_kp ⟨J.1.1,J.1.2.1⟩ a4 e3);have g6:Hid (Roomy b'.length a5/\StsL (w.1.size+2<=·) V3 Y 0 b'):=O ⟨d8.1,sts_kp ⟨J.1.1,J.1.2.1⟩ a4 d8.2⟩;have g4:Hid (Roomy c'.length b5/\StsL (w.1.size+2<=·) V3 a3 0 c'):=O ⟨f2,StsL.weak (fun c V=>by have h2:=V;have:=Q.sz;show w.1.size+2<=c;omega) e0⟩;have e2:=O c8.s;apply E _ _ (fun _=>e2);clear E K A a4 H f2 e0 Q f8 e3 e9 d8 f6;refine ag 8 ?_;refine nm ?_;refine oD 9 fun K E=>?_;refine wp_store_one (by kernel_rfl) (.tmp 107) (.tmp 102) z w.1.size 19 60 (.slice Y b'.length a5) _ z z z z c8.s (by rw[d0.o];decide) ?_;intro V4 k4 c4
 rw[(stC_set Z.o.1 a6.o.1 (.slice Y b'.length a5) 0 false).1]at k4;have d6:=O (c8.setS k4 c4);have a7:=O (And.intro (c4.exW (by omega) f5) (And.intro (c4.exW (by omega) f3) (And.intro (c4.stsW (by omega) g6.2) (c4.stsW (by omega) g4.2))));apply E _ _ nofun;clear E K k4 c4 c8 f5 f3;refine oD 10 fun K E=>?_;go_simp;apply E _ _ nofun;clear E K;refine oD 11 fun K E=>?_;refine wp_store_one (by kernel_rfl) (.tmp 108) (.tmp 106) z w.1.size 20 60 (.slice a3 c'.length b5) _ z z z z d6.s (by simp[stC,Z.o.1,a6.o.1]) ?_;intro V5 k5 c5;rw[(stC_set Z.o.1 a6.o.1 (.slice a3 c'.length b5) 0 false).2.1]at k5;have b4:=O (d6.setS k5 c5)
 have b6:=O (And.intro (c5.exW (by omega) a7.1) (And.intro (c5.exW (by omega) a7.2.1) (And.intro (c5.stsW (by omega) a7.2.2.1) (c5.stsW (by omega) a7.2.2.2))));apply E _ _ nofun;clear E K k5 c5 d6 a7;simp only[Act.put];refine dn ?_;go_wp2;apply e5;clear e5 KK;obtain⟨S,b9⟩:=eX (stC k l c s t l2 l3 (.slice Y b'.length a5) (.slice a3 c'.length b5) id sl ot lo);have h6:=O b9;have e1:Hid (S.length=25/\∀v∈S,v.oneCell'=true):=O (by rw[<-b9];exact stC_one Z.o a6.o);rw[b9]at b4;clear b9;have e8:=e1.o.1;go_wp2_with (first
  | (with_reducible refine l0 60 ?_;refine wpList_load_blk d9 g2 info64 z (.tmp 3) z w.1.size S z (O b4.o.s) e8 ?_)
  | (with_reducible refine s0 60 ?_;refine wpList_store_ch info64 z (.tmp 4) (.tmp 109) z (w.1.size+1) S _ z z b4.o.y z e1.o ?_;intro V9 k9 c9;have X:=O (And.intro k9 c9);clear k9 c9)
 )
 refine end_blk d9 g2 info64 X.o.1 e8 z z z ?_;rw[g9.o];have h8:=J.o;have g8:=b4.f.ch X.2 (by omega) (by omega) (by omega);have a9:=X.2.kp;have h5:Kp w V9 F g:=by have h1:=b4.k;exact⟨a9.os.trans h1.os,a9.tape.trans h1.tape,a9.output.trans h1.output,Nat.le_trans h1.size a9.size,fun c V h3 h4=> (a9.block c (Nat.lt_of_lt_of_le V h1.size) (by omega) (by omega)).trans (h1.block c V h3 h4)⟩
 refine⟨h5,g8,S,z,?_⟩;rw[<-h6.o];have b7:∀c,w.1.size+2<=c->w.1.size<=c:=fun c V=>by omega
 unfold StL;exact⟨l2,l3,Y,a3,a5,b5,z,ExL.weak b7 (X.2.exW (by omega) b6.1),ExL.weak b7 (X.2.exW (by omega) b6.2.1),g6.1,StsL.weak b7 (X.2.stsW (by omega) b6.2.2.1),g4.1,StsL.weak b7 (X.2.stsW (by omega) b6.2.2.2)⟩
def wnT(k:Int):Option (Nat×Nat×Bool×Bool):=if k=2 then some (1,0,true,false) else if k=3 then some (2,0,false,false) else if k=6 then some (3,0,false,false) else if k=7 then some (3,0,false,false) else if k=8 then some (4,3,false,false) else if k=9 then some (4,0,false,false) else if k=10 then some (4,0,false,false) else if k=11 then some (5,0,false,false) else if k=12 then some (5,1,false,true) else if k=13 then some (6,0,false,false) else none
theorem wnT_cases{k:Int}{a:Nat}{p q:Bool}(h:wnT k=some (a,b,p,q)):(b=0/\q=false)∨(b≠0/\p=false):=by
 unfold wnT at h;repeat' split at h
 all_goals first| (cases h;simp)|cases h
def wHead(L:List Nm)(p:Int×Int)(k:Int)(s t:ByteArray)(sl ot:Int)(lo:Bool):Except Flw (Int×Int×Bool):=match wnT k with
 |none=> .ok (sl,ot,lo)
 |some (a,b,p1,q1)=>match fnd L s a p1 p with
  | .error e=> .error e
  | .ok x=>if b=0 then .ok ((x.slot:Int),ot,if p1 then decide (x.kind=0) else lo) else match fnd L t b q1 p with
   | .error e=> .error e
   | .ok y=> .ok ((x.slot:Int),(y.slot:Int),if q1 then decide (y.kind=0) else if p1 then decide (x.kind=0) else lo)
theorem stHead_eq(L:List Nm)(loc:Nat)(p:Int×Int)(k:Int)(s t:ByteArray)(sl ot:Int)(lo:Bool):stHead L loc p k s t sl ot lo=if k=1 then (if (lkN L s).isSome then .error (p,130) else if loc=32 then .error (p,134) else .ok ((loc:Int),ot,true)) else wHead L p k s t sl ot lo:=by
 unfold stHead;by_cases H:k=1
 .simp only[if_pos H]
 simp only[if_neg H];unfold wHead wantN wantW wnT;by_cases F:k=2
 .subst F;rfl
 by_cases C:k=3
 .subst C;rfl
 by_cases D:k=6
 .subst D;rfl
 by_cases E:k=7
 .subst E;rfl
 by_cases J:k=8
 .subst J;rfl
 by_cases w:k=9
 .subst w;rfl
 by_cases g:k=10
 .subst g;rfl
 by_cases j:k=11
 .subst j;rfl
 by_cases G:k=12
 .subst G;rfl
 by_cases A:k=13
 .subst A;rfl
 simp only[F,C,D,E,J,w,g,j,G,A,if_false,or_self]
section
variable {L:List Nm} {p:Int×Int} {k:Int} {s t:ByteArray} {sl ot:Int} {lo:Bool} {a b:Nat} {p1 q1:Bool} {x y:Nm} {e:Flw}
theorem wHead_none(h:wnT k=none):wHead L p k s t sl ot lo= .ok (sl,ot,lo):=by unfold wHead;rw[h]
theorem wHead_err1(h:wnT k=some (a,b,p1,q1))(g:fnd L s a p1 p= .error e):wHead L p k s t sl ot lo= .error e:=by unfold wHead;rw[h];simp only[g]
theorem wHead_one(h:wnT k=some (a,0,p1,q1))(g:fnd L s a p1 p= .ok x):wHead L p k s t sl ot lo= .ok ((x.slot:Int),ot,if p1 then decide (x.kind=0) else lo):=by unfold wHead;rw[h];simp only[g,if_true]
theorem wHead_err2(h:wnT k=some (a,b,p1,q1))(g:b≠0)(w:fnd L s a p1 p= .ok x)(j:fnd L t b q1 p= .error e):wHead L p k s t sl ot lo= .error e:=by unfold wHead;rw[h];simp only[w,j,if_neg g]
theorem wHead_two(h:wnT k=some (a,b,p1,q1))(g:b≠0)(w:fnd L s a p1 p= .ok x)(j:fnd L t b q1 p= .ok y):wHead L p k s t sl ot lo= .ok ((x.slot:Int),(y.slot:Int),if q1 then decide (y.kind=0) else if p1 then decide (x.kind=0) else lo):=by unfold wHead;rw[h];simp only[w,j,if_neg g]
end
def wvC(r:Option (Nat×Nat×Bool×Bool)):List Value:=match r with
 |none=> [.int .i64 0,.int .i64 0,.bool false,.bool false]
 |some (a,b,p,q)=> [.int .i64 (a:Int),.int .i64 (b:Int),.bool p,.bool q]
theorem wvC_one(r:Option (Nat×Nat×Bool×Bool)):(wvC r).length=4/\∀v∈wvC r,v.oneCell'=true:=by
 rcases r with _|⟨a,b,p,q⟩;all_goals
  refine⟨z,fun v g=>?_⟩;simp only[wvC,List.mem_cons,List.not_mem_nil,or_false]at g;rcases g with rfl|rfl|rfl|rfl<;>rfl
theorem under98:Tryz.prog.underlying 98=some (.map 53 167):=by kernel_rfl
theorem under53:Tryz.prog.underlying 53=some (.int .i64):=by kernel_rfl
theorem zero167:∃i z,Tryz.prog.info? 167=some i/\i.zero=some z/\z.cells=(wvC none).toArray:=infoZ (by kernel_rfl)
theorem info167:(Tryz.prog.info? 167).map (·.size)=some 4:=by kernel_rfl
theorem info3:(Tryz.prog.info? 3).map (·.size)=some 1:=by kernel_rfl
theorem info4:(Tryz.prog.info? 4).map (·.size)=some 1:=by kernel_rfl
theorem find_wn(k:Int):∃i,Instr.findNow (.int .i64) (I k) wantEs 0=some ((wnT k).map fun q=> (i,.agg (wvC (some q)).toArray)):=by
 unfold wnT;by_cases D:k=2
 .subst D;exact⟨0,z⟩
 by_cases C:k=3
 .subst C;exact⟨1,z⟩
 by_cases E:k=6
 .subst E;exact⟨2,z⟩
 by_cases F:k=7
 .subst F;exact⟨3,z⟩
 by_cases G:k=8
 .subst G;exact⟨4,z⟩
 by_cases w:k=9
 .subst w;exact⟨5,z⟩
 by_cases g:k=10
 .subst g;exact⟨6,z⟩
 by_cases H:k=11
 .subst H;exact⟨7,z⟩
 by_cases J:k=12
 .subst J;exact⟨8,z⟩
 by_cases A:k=13
 .subst A;exact⟨9,z⟩
 refine⟨0,?_⟩;have e:∀j:Int,¬k=j->(k==j)=false:=fun j h=>by simpa using h
 simp[Instr.findNow,Instr.sameNow,wantEs,wE,D,C,E,F,G,w,g,H,J,A,e 2 D,e 3 C,e 6 E,e 7 F,e 8 G,e 9 w,e 10 g,e 11 H,e 12 J,e 13 A]
theorem look_wn(h:w.1[g]? =some (.map wantEs.toArray 10))(k:Int):
  (Instr.lookup 98 (.map (some g)) (I k) true).run Tryz.prog w= .ok (.tuple #[.agg (wvC (wnT k)).toArray,.bool (wnT k).isSome]) w:=by
 have A:MapKept.IsKey (.int .i64) (I k):=by simp[MapKept.IsKey]
 obtain⟨i,C⟩:=find_wn k;have j:Instr.findNow (.int .i64) (I k) wantEs.toArray.toList 0=some ((wnT k).map fun q=> (i,.agg (wvC (some q)).toArray)):=by simpa using C
 rcases hx:wnT k with _|q;all_goals rw[hx]at j
 .simp[Instr.lookup,run_underlying under98,MapKept.run_getObj_map h,MapKept.run_checkKey under53 A,MapKept.run_findKey under53 j,Result.andThen,wvC]
 .simp[Instr.lookup,run_underlying under98,MapKept.run_getObj_map h,MapKept.run_checkKey under53 A,MapKept.run_findKey under53 j,Result.andThen]
def Ms(w0 w:World)(F g h:Nat)(fc:List Value)(D:PF)(sc xc yc:List Value)(x y:Ex)(W:World):Prop:=Xs w0 w F g h fc D sc W/\ExL (w.1.size+2<=·) W xc x/\ExL (w.1.size+2<=·) W yc y
section
variable {w0 w W W':World} {F g h:Nat} {fc sc sc' xc yc:List Value} {D:PF} {x y:Ex}
theorem Ms.below(H:Ms w0 w F g h fc D sc xc yc x y W)(A:bL W W'):Ms w0 w F g h fc D sc xc yc x y W':=⟨H.1.below A,H.2.1.keep fun b o u _ j=>below_cell A b o u j,H.2.2.keep fun b o u _ j=>below_cell A b o u j⟩
theorem Ms.setS(H:Ms w0 w F g h fc D sc xc yc x y W)(A:Blk W' w.1.size 60 sc')(j:Ch w.1.size W W'):Ms w0 w F g h fc D sc' xc yc x y W':=⟨H.1.setS A j,j.exW (by omega) H.2.1,j.exW (by omega) H.2.2⟩
theorem Ms.lt(H:Ms w0 w F g h fc D sc xc yc x y W):w.1.size+2<=W.1.size:=H.1.sz
end
theorem pst_w{F h:Nat}{fc:List Value}{D:PF}{k l c:Int}{x y:Ex}{body els:List St}{id sl ot:Int}{lo:Bool}(HI:Hid (PIv D))(HS:Hid (Xs w0 w F g h fc D (stC k l c s t l2 l3 (.slice a0 body.length j) (.slice a1 els.length n0) id sl ot lo) W))
  (HX:Hid (ExL (w.1.size+2<=·) W l2 x))(HY:Hid (ExL (w.1.size+2<=·) W l3 y))(HB:Hid (Roomy body.length j/\StsL (fun _=>True) w0 a0 0 body))(HE:Hid (Roomy els.length n0/\StsL (fun _=>True) w0 a1 0 els))(IB:Hid (BlkC w0 F g h fc body))(IE:Hid (BlkC w0 F g h fc els)){R:Except Flw (St×Nat×Nat)}
  (HR:Hid (R=(match wHead D.L (l,c) k s t sl ot lo with| .error e=> .error e| .ok q=>stTl D.L D.loc D.n D.mo (fun b e=> .mk k l c s t x y b e id q.1 q.2.1 q.2.2) body els)))(hU:l4.length=105:=by rfl):
  Code.wp Tryz.prog (dropS 7 (Tryz.f117.body.getD .skip)) (bodyPost Tryz.prog Tryz.f117 (SPp w F g h fc D R)) ⟨(Pt F::v0::v1::Pt w.1.size::Pt (w.1.size+1)::l4).toArray,[]⟩ W:=by
 revert l4;apply aN;iterate 105 intro _
 change Code.wp _ _ _ _ _;obtain⟨i4,z4,d0,e0,d7⟩:=zero104i;obtain⟨d4,h0,h3⟩:=under104;obtain⟨i7,z7,i0,h7,h9⟩:=zero167;have h5:Tryz.prog.follows .mixedOrders=true:=by kernel_rfl
 have e5:=O HX.o.cells;have f5:=O HY.o.cells;have f2:=O (stC_at z e5.o.1 f5.o.1 (C:=stC k l c s t l2 l3 (.slice a0 body.length j) (.slice a1 els.length n0) id sl ot lo));have a7:Hid (∀ (sl ot:Int) (lo:Bool),(stC k l c s t l2 l3 (.slice a0 body.length j) (.slice a1 els.length n0) id sl ot lo).length=25):=O fun _ _ _=>by simp[stC,e5.o.1,f5.o.1]
 have a8:=O (fun (sl ot:Int) (lo:Bool) v (i:Int) (b:Bool)=>stC_set (k:=k) (l:=l) (c:=c) (s:=s) (t:=t) (bv:= .slice a0 body.length j) (ev:= .slice a1 els.length n0) (id:=id) (sl:=sl) (ot:=ot) (lo:=lo) e5.o.1 f5.o.1 v i b);conv in (dropS _ _)=>whnf
 refine wk fun KK d5=>?_;obtain⟨f4,hV⟩:∃f4,W.drew=f4:=⟨_,z⟩;have J:Hid (Ms w0 w F g h fc D (stC k l c s t l2 l3 (.slice a0 body.length j) (.slice a1 els.length n0) id sl ot lo) l2 l3 x y f4):=O (by rw[<-hV];exact Ms.below ⟨HS.o,HX.o,HY.o⟩ (Below.refl _ W).drew);clear HS HX HY;obtain⟨r,Z⟩:∃r,wnT k=r:=⟨_,z⟩;have a2:=O Z;clear Z;go_wp2_with fail;refine wp_region_x [] (fun W=>Ms w0 w F g h fc D (stC k l c s t l2 l3 (.slice a0 body.length j) (.slice a1 els.length n0) id sl ot lo) l2 l3 x y W) h5 ?_;rw[hV];clear hV;refine tk 0 (some 50) J ?_;refine tk 1 (some 51) J ?_;refine tk 2 (some 52) J ?_;refine tf _ 3 (some 53) J (fun W1 b7=>b7.1.f.c14) ?_;refine nm ?_;refine tk 4 (some 54) J ?_
 refine tf _ 5 (some 55) J (fun W1 b7=> (b7.1.s.cell 0).trans f2.o.1) ?_;refine wpX_takeD 6 (some 56) (v:=?_) z z (by kernel_rfl) (fun _ _ _ h=>h) J.o (Or.inl ⟨by rfl,?_⟩) ?_;rotate_left
 .intro W1 b7;have i1:=look_wn b7.1.f.wm k;rw[a2.o]at i1;clear b7;go_simp;first|with_reducible rfl|rw[if_neg (by omega)]
 refine tk 7 (some 49) J ?_;refine nm ?_;refine tk 8 (some 57) J ?_;refine tk 9 (some 58) J ?_;refine nm ?_;refine oD 10 fun g4 hK=>?_;obtain⟨G,f7⟩:∃b,f4.1.size=b:=⟨_,z⟩;have Y:Hid (w.1.size+2<=G):=O (by rw[<-f7];exact J.o.lt);refine wp_alloc_blk i0 h7 h9 z G f7 ?_;intro V2 hk E z2;have KB:=O hk;have g3:=O (And.intro E f7);have h1:=O (J.o.below E);refine hK _ _ (fun _=>h1.o) ?_;clear hK g4 hk E;refine nm ?_;refine oD 11 fun g4 hK=>?_;refine wp_store_ch info167 (.tmp 5) (.tmp 57) z G (wvC r) _ z z KB.o z (wvC_one r) ?_;intro V3 k3 c3;have S:=O (J.o.below (c3.below (by rw[g3.o.2];omega) g3.o.1));have f6:=O k3;refine hK _ _ (fun _=>S.o) ?_;clear hK g4 k3 c3 h1 KB g3 J f7 z2
 refine tk 12 (some 6) S ?_;refine nm ?_;refine dn ?_;rcases r with _|⟨a,b,p1,q1⟩
 .go_wp2_with fail;refine d5.o _ _ ?_;have A:=HR.o;rw[wHead_none a2.o]at A;exact pst_end HI (O S.o.1) (O S.o.2.1) (O S.o.2.2) HB HE IB IE (O A)
 have e3:=(S.o.1.s.cell 3).trans f2.o.2.2.2.1;have k1:=(S.o.1.s.cell 1).trans f2.o.2.1;have k2:=(S.o.1.s.cell 2).trans f2.o.2.2.1;have i2:V3.cell? ⟨G,0,none⟩=some (.int .i64 (a:Int)):=f6.o.cell 0;have v2:V3.cell? ⟨G,2,none⟩=some (.bool p1):=f6.o.cell 2;have H:=pfind_any S.o.1.f s a p1 (l,c);obtain⟨r,Z⟩:∃r,fnd D.L s a p1 (l,c)=r:=⟨_,z⟩;rw[Z]at H;have c8:=O Z;clear Z;have h4:=O (wnT_cases a2.o);go_wp2_with fail;refine H.mono ?_;clear H e3 k1 k2 i2 v2;rintro e V4 ⟨E,hm⟩;have e2:=O (S.o.below E);have f3:=O (f6.o.below E);clear E S f6;rcases r with er|⟨xt,xk,xs⟩
 .obtain rfl:e= .panicked [flawN er]:=hm;have A:=HR.o;rw[wHead_err1 a2.o c8.o]at A;rw[A];exact⟨z,e2.o.1.k,z,D.n,D.mo,e2.o.1.f⟩
 obtain rfl:e= .returned (.agg #[I xk,I xs]):=hm;obtain⟨N,d8⟩:∃b,V4.1.size=b:=⟨_,z⟩;have b8:Hid (G<N/\V4.1.size=N):=O ⟨by rw[<-d8];exact f3.o.lt,d8⟩;have h8:=h4.o;clear h4;rcases h8 with ⟨rfl,rfl⟩|⟨g1,rfl⟩
 .cases p1 with
  |false=>
   go_wp2_with (first
    | ((with_reducible refine aa 7 (.alloc 104) ?_);refine wpList_alloc_blk d0 e0 d7 z z N d8 ?_;intro V5 k5 b5 s5;have K5:=O k5;have B5:=O b5;clear k5 b5)
    | ((with_reducible refine ah (.store 104 (.tmp 7) _) ?_);refine wpList_store_ch info104 z (.tmp 7) (.tmp 69) z N [I xk,I xs] _ z z K5.o z ⟨z,by simp[Value.oneCell']⟩ ?_;intro V6 k6 c6;have K6:=O k6;have V:=c6.below (by rw[b8.o.2];omega) B5.o;have a4:=O (e2.o.below V);have d6:=O (f3.o.below V);have x1:V6.cell? ⟨N,1,none⟩=some (.int .i64 (xs:Int)):=K6.o.cell 1;clear k6 c6 V K5 B5 s5)
    | ((with_reducible refine ah (.store 3 (.tmp 72) _) ?_);refine wpList_store_one info3 z (.tmp 72) (.tmp 71) z w.1.size 22 60 (I xs) _ z z z z a4.o.1.s (by rw[a7.o];decide) ?_;intro U X c7;rw[(a8.o sl ot lo (.slice none 0 0) (xs:Int) false).2.2.2.1]at X;have K:=O (a4.o.setS X c7);have M:=O (c7.blk (by have:=Y.o;omega) d6.o);have K7:=O (c7.blk (by have:=b8.o;have:=Y.o;omega) K6.o);clear X c7 x1;have w1:U.cell? ⟨G,1,none⟩=some (.int .i64 (0)):=M.o.cell 1;have w2:U.cell? ⟨G,2,none⟩=some (.bool false):=M.o.cell 2)
    |fail)
   refine d5.o _ _ ?_;have A:=HR.o;rw[wHead_one a2.o c8.o]at A;exact pst_end HI (O K.o.1) (O K.o.2.1) (O K.o.2.2) HB HE IB IE (O A)
  |true=>
   go_wp2_with (first
    | ((with_reducible refine aa 7 (.alloc 104) ?_);refine wpList_alloc_blk d0 e0 d7 z z N d8 ?_;intro V5 k5 b5 s5;have K5:=O k5;have B5:=O b5;clear k5 b5)
    | ((with_reducible refine ah (.store 104 (.tmp 7) _) ?_);refine wpList_store_ch info104 z (.tmp 7) (.tmp 69) z N [I xk,I xs] _ z z K5.o z ⟨z,by simp[Value.oneCell']⟩ ?_;intro V6 k6 c6;have K6:=O k6;have V:=c6.below (by rw[b8.o.2];omega) B5.o;have a4:=O (e2.o.below V);have d6:=O (f3.o.below V);have x1:V6.cell? ⟨N,1,none⟩=some (.int .i64 (xs:Int)):=K6.o.cell 1;clear k6 c6 V K5 B5 s5)
    | ((with_reducible refine ah (.store 3 (.tmp 72) _) ?_);refine wpList_store_one info3 z (.tmp 72) (.tmp 71) z w.1.size 22 60 (I xs) _ z z z z a4.o.1.s (by rw[a7.o];decide) ?_;intro U X c7;rw[(a8.o sl ot lo (.slice none 0 0) (xs:Int) false).2.2.2.1]at X;have K:=O (a4.o.setS X c7);have M:=O (c7.blk (by have:=Y.o;omega) d6.o);have K7:=O (c7.blk (by have:=b8.o;have:=Y.o;omega) K6.o);clear X c7 x1;have w1:U.cell? ⟨G,1,none⟩=some (.int .i64 (0)):=M.o.cell 1;have w2:U.cell? ⟨G,2,none⟩=some (.bool true):=M.o.cell 2)
    | ((with_reducible refine am _ (.load 104 _) ?_);refine wpList_load_blk h0 h3 info104 z (.tmp 7) z N [I xk,I xs] z K7 z ?_)
    |fail)
   have H:=plocal_any (xk:Int) (xs:Int) U;rw[show decide ((xk:Int)=0)=decide (xk=0) by simp]at H;obtain⟨bb,b4⟩:∃bb,decide (xk=0)=bb:=⟨_,z⟩;rw[b4]at H;have g6:=O b4;clear b4;refine H.mono ?_;clear H;rintro e V8 ⟨rfl,E⟩;have a5:=O (K.o.below E);have d3:=O (M.o.below E);clear E w1 w2 K M K7;go_wp2_with (first
    | ((with_reducible refine ah (.store 4 (.tmp 77) _) ?_);refine wpList_store_one info4 z (.tmp 77) (.tmp 76) z w.1.size 24 60 (.bool bb) _ z z z z a5.o.1.s (by rw[a7.o];decide) ?_;intro V9 k9 c9;rw[(a8.o (xs:Int) ot lo (.slice none 0 0) 0 bb).2.2.2.2.2]at k9;have e8:=O (a5.o.setS k9 c9);have h6:=O (c9.blk (by have:=Y.o;omega) d3.o);clear k9 c9;have w1:V9.cell? ⟨G,1,none⟩=some (.int .i64 0):=h6.o.cell 1)
    |fail)
   refine d5.o _ _ ?_;have A:=HR.o;rw[wHead_one a2.o c8.o]at A;rw[<-g6.o]at e8;exact pst_end HI (O e8.o.1) (O e8.o.2.1) (O e8.o.2.2) HB HE IB IE (O A)
 .have i6:¬ (b:Int)=0:=by omega
  have H:=fun (W2:World) (H2:Fi W2 F g h fc D)=>pfind_any H2 t b q1 (l,c);obtain⟨r,Z⟩:∃r,fnd D.L t b q1 (l,c)=r:=⟨_,z⟩;rw[Z]at H;have g7:=O Z;have g9:=O H;clear Z H;have f8:=O (stC_at z e5.o.1 f5.o.1 (C:=stC k l c s t l2 l3 (.slice a0 body.length j) (.slice a1 els.length n0) id (xs:Int) ot lo));go_wp2_with (first
   | ((with_reducible refine aa 7 (.alloc 104) ?_);refine wpList_alloc_blk d0 e0 d7 z z N d8 ?_;intro V5 k5 b5 s5;have K5:=O k5;have B5:=O b5;clear k5 b5)
   | ((with_reducible refine ah (.store 104 (.tmp 7) _) ?_);refine wpList_store_ch info104 z (.tmp 7) (.tmp 69) z N [I xk,I xs] _ z z K5.o z ⟨z,by simp[Value.oneCell']⟩ ?_;intro V6 k6 c6;have K6:=O k6;have V:=c6.below (by rw[b8.o.2];omega) B5.o;have a4:=O (e2.o.below V);have d6:=O (f3.o.below V);have x1:V6.cell? ⟨N,1,none⟩=some (.int .i64 (xs:Int)):=K6.o.cell 1;clear k6 c6 V K5 B5 s5)
   | ((with_reducible refine ah (.store 3 (.tmp 72) _) ?_);refine wpList_store_one info3 z (.tmp 72) (.tmp 71) z w.1.size 22 60 (I xs) _ z z z z a4.o.1.s (by rw[a7.o];decide) ?_;intro U X c7;rw[(a8.o sl ot lo (.slice none 0 0) (xs:Int) false).2.2.2.1]at X;have K:=O (a4.o.setS X c7);have M:=O (c7.blk (by have:=Y.o;omega) d6.o);have K7:=O (c7.blk (by have:=b8.o;have:=Y.o;omega) K6.o);clear X c7 x1;have w1:U.cell? ⟨G,1,none⟩=some (.int .i64 ((b:Int))):=M.o.cell 1;have w2:U.cell? ⟨G,2,none⟩=some (.bool false):=M.o.cell 2;have w3:U.cell? ⟨G,3,none⟩=some (.bool q1):=M.o.cell 3;have e4:=(K.o.1.s.cell 4).trans f8.o.2.2.2.2.1;have k1:=(K.o.1.s.cell 1).trans f8.o.2.1;have k2:=(K.o.1.s.cell 2).trans f8.o.2.2.1)
   |fail)
  refine(g9.o U K.o.1.f).mono ?_;clear g9 w1 w2 w3 e4 k1 k2;rintro e V8 ⟨E,hm⟩;have a5:=O (K.o.below E);have d3:=O (M.o.below E);clear E K M K7;rcases r with er|⟨yt,yk,Q⟩
  .obtain rfl:e= .panicked [flawN er]:=hm;have A:=HR.o;rw[wHead_err2 a2.o g1 c8.o g7.o]at A;rw[A];exact⟨z,a5.o.1.k,z,D.n,D.mo,a5.o.1.f⟩
  obtain rfl:e= .returned (.agg #[I yk,I Q]):=hm;obtain⟨bP,f0⟩:∃b,V8.1.size=b:=⟨_,z⟩;have e7:Hid (G<bP/\V8.1.size=bP):=O ⟨by rw[<-f0];exact d3.o.lt,f0⟩;cases q1 with
  |false=>
   go_wp2_with (first
    | ((with_reducible refine aa 8 (.alloc 104) ?_);refine wpList_alloc_blk d0 e0 d7 z z bP f0 ?_;intro V9 k9 b9 s9;have K9:=O k9;have B9:=O b9;clear k9 b9)
    | ((with_reducible refine ah (.store 104 (.tmp 8) _) ?_);refine wpList_store_ch info104 z (.tmp 8) (.tmp 90) z bP [I yk,I Q] _ z z K9.o z ⟨z,by simp[Value.oneCell']⟩ ?_;intro f9 d9 d1;have d2:=O d9;have a9:=d1.below (by rw[e7.o.2];omega) B9.o;have e1:=O (a5.o.below a9);have g2:=O (d3.o.below a9);have x1:f9.cell? ⟨bP,1,none⟩=some (.int .i64 (Q:Int)):=d2.o.cell 1;clear d9 d1 a9 K9 B9 s9)
    | ((with_reducible refine ah (.store 3 (.tmp 93) _) ?_);refine wpList_store_one info3 z (.tmp 93) (.tmp 92) z w.1.size 23 60 (I Q) _ z z z z e1.o.1.s (by rw[a7.o];decide) ?_;intro e6 a6 a3;rw[(a8.o (xs:Int) ot lo (.slice none 0 0) (Q:Int) false).2.2.2.2.1]at a6;have b6:=O (e1.o.setS a6 a3);have e9:=O (a3.blk (by have:=Y.o;omega) g2.o);have g8:=O (a3.blk (by have:=e7.o;have:=Y.o;omega) d2.o);clear a6 a3 x1;have w3:e6.cell? ⟨G,3,none⟩=some (.bool false):=e9.o.cell 3)
    |fail)
   refine d5.o _ _ ?_;have A:=HR.o;rw[wHead_two a2.o g1 c8.o g7.o]at A;exact pst_end HI (O b6.o.1) (O b6.o.2.1) (O b6.o.2.2) HB HE IB IE (O A)
  |true=>
   go_wp2_with (first
    | ((with_reducible refine aa 8 (.alloc 104) ?_);refine wpList_alloc_blk d0 e0 d7 z z bP f0 ?_;intro V9 k9 b9 s9;have K9:=O k9;have B9:=O b9;clear k9 b9)
    | ((with_reducible refine ah (.store 104 (.tmp 8) _) ?_);refine wpList_store_ch info104 z (.tmp 8) (.tmp 90) z bP [I yk,I Q] _ z z K9.o z ⟨z,by simp[Value.oneCell']⟩ ?_;intro f9 d9 d1;have d2:=O d9;have a9:=d1.below (by rw[e7.o.2];omega) B9.o;have e1:=O (a5.o.below a9);have g2:=O (d3.o.below a9);have x1:f9.cell? ⟨bP,1,none⟩=some (.int .i64 (Q:Int)):=d2.o.cell 1;clear d9 d1 a9 K9 B9 s9)
    | ((with_reducible refine ah (.store 3 (.tmp 93) _) ?_);refine wpList_store_one info3 z (.tmp 93) (.tmp 92) z w.1.size 23 60 (I Q) _ z z z z e1.o.1.s (by rw[a7.o];decide) ?_;intro e6 a6 a3;rw[(a8.o (xs:Int) ot lo (.slice none 0 0) (Q:Int) false).2.2.2.2.1]at a6;have b6:=O (e1.o.setS a6 a3);have e9:=O (a3.blk (by have:=Y.o;omega) g2.o);have g8:=O (a3.blk (by have:=e7.o;have:=Y.o;omega) d2.o);clear a6 a3 x1;have w3:e6.cell? ⟨G,3,none⟩=some (.bool true):=e9.o.cell 3)
    | ((with_reducible refine am _ (.load 104 _) ?_);refine wpList_load_blk h0 h3 info104 z (.tmp 8) z bP [I yk,I Q] z g8 z ?_)
    |fail)
   have H:=plocal_any (yk:Int) (Q:Int) e6;rw[show decide ((yk:Int)=0)=decide (yk=0) by simp]at H;obtain⟨bb,b4⟩:∃bb,decide (yk=0)=bb:=⟨_,z⟩;rw[b4]at H;have g6:=O b4;clear b4;refine H.mono ?_;clear H;rintro e i3 ⟨rfl,E⟩;have h2:=O (b6.o.below E);clear E w3 b6 e9 g8;go_wp2_with (first
    | ((with_reducible refine ah (.store 4 (.tmp 98) _) ?_);refine wpList_store_one info4 z (.tmp 98) (.tmp 97) z w.1.size 24 60 (.bool bb) _ z z z z h2.o.1.s (by rw[a7.o];decide) ?_;intro i5 g5 c13;rw[(a8.o (xs:Int) (Q:Int) lo (.slice none 0 0) 0 bb).2.2.2.2.2]at g5;have f1:=O (h2.o.setS g5 c13);clear g5 c13)
    |fail)
   refine d5.o _ _ ?_;have A:=HR.o;rw[wHead_two a2.o g1 c8.o g7.o]at A;rw[<-g6.o]at f1;exact pst_end HI (O f1.o.1) (O f1.o.2.1) (O f1.o.2.2) HB HE IB IE (O A)
theorem Ms.letS{F h:Nat}{fc:List Value}{D:PF}{x y:Ex}(H:Ms w0 w F g h fc D l5 l3 l4 x y W)(K:Blk V w.1.size 60 l2)(j:Kp W V w.1.size w.1.size):Ms w0 w F g h fc D l2 l3 l4 x y V:=by
 have N:=H.1.lt;have Q:=H.lt;have G:∀ (b o:Nat) (u:Value),w.1.size+2<=b->W.cellF ⟨b,o,none⟩=some u->V.cellF ⟨b,o,none⟩=some u:=fun b o u C A=>by rw[<-A];simp[World.cellF,j.block b (World.block_lt_of_cellF W A) (by omega) (by omega)]
 exact⟨⟨⟨j.os.trans H.1.k.os,j.tape.trans H.1.k.tape,j.output.trans H.1.k.output,Nat.le_trans H.1.k.size j.size,fun c E M J=> (j.block c (Nat.lt_of_lt_of_le E H.1.k.size) (by omega) (by omega)).trans (H.1.k.block c E M J)⟩,H.1.f.of (j.block _ (by omega) (by omega) (by omega)) (j.block _ (by omega) (by omega) (by omega)) (j.block _ (by omega) (by omega) (by omega)),K,H.1.y.of (j.block _ (by omega) (by omega) (by omega)),j.to_below H.1.b (by have:=H.1.b.size;omega) (by omega) (by omega),H.1.lt⟩,H.2.1.keep fun b o u C A=>G b o u C A,H.2.2.keep fun b o u C A=>G b o u C A⟩
theorem Xs.exs{F h:Nat}{fc:List Value}{D:PF}(H:Xs w0 w F g h fc D l2 W){cs:List Value}{x:Ex}(j:ExL (fun _=>True) w0 cs x):ExL (fun _=>True) W cs x:=j.keep fun b o u _ A=>below_cell H.b b o u A
theorem pst_step{F h:Nat}{fc:List Value}(k l c:Int)(s t:ByteArray)(x y:Ex)(body els:List St)(id sl ot:Int)(lo:Bool)(hx:x.sm)(hy:y.sm)(f1:BlkC w0 F g h fc body)(d7:BlkC w0 F g h fc els)(D:PF)(sc:List Value)(w:World)(hF:Fi w F g h fc D)(hI:PIv D)(hw:Below w0.1.size w0 w)(d8:w0.1.size<=F/\w0.1.size<=g)(hS:StL (fun _=>True) w0 sc (.mk k l c s t x y body els id sl ot lo)):
  Calls Tryz.prog 117 #[.pointer (some ⟨F,0,none⟩),.agg sc.toArray] w (SPp w F g h fc D (fSt D.L D.loc D.n D.mo (.mk k l c s t x y body els id sl ot lo))):=by
 obtain⟨d6,e4,e3⟩:=under58;obtain⟨i6,z6,f6,f4,a1⟩:=zero60;unfold StL at hS;obtain⟨S,yc,ab,ae,a6,a8,e2,b7,d2,f2,J,d5,he⟩:=hS;have U:=O b7.cells;have a2:=O d2.cells;have HX:=O b7;have HY:=O d2;have HB:=O (And.intro f2 J);have HE:=O (And.intro d5 he);have IB:=O f1;have IE:=O d7;have e0:=O (And.intro hx hy);have d1:Hid (sc=stC k l c s t S yc (.slice ab body.length a6) (.slice ae els.length a8) id sl ot lo):=O e2;have g3:Hid (sc.length=25/\∀v∈sc,v.oneCell'=true):=O (by rw[d1.o];exact stC_one U.o a2.o);have c9:=O hF;have HI:=O hI;have HW:=O (And.intro hw d8);obtain⟨R,j⟩:∃R,fSt D.L D.loc D.n D.mo (.mk k l c s t x y body els id sl ot lo)=R:=⟨_,z⟩;rw[j];rw[fSt_mk]at j;have HR:=O j
 clear j e2 b7 d2 f2 J d5 he f1 d7 hx hy hF hI hw d8;go_enter Tryz.func117,Tryz.ntmps117;refine wk fun H A=>?_;go_wp2_with (first
  | ((with_reducible refine aa 3 (.box 60 _) ?_);refine wpList_box_blk z (.tmp 1) z sc z w.1.size z ?_;intro W1 k1 b1 d4;have K1:=O k1;have B1:=O b1;clear k1 b1)
  | ((with_reducible refine aa 4 (.alloc 60) ?_);refine wpList_alloc_blk f6 f4 a1 z z (w.1.size+1) d4 ?_;intro W2 k2 b2 s2;have K2:=O k2;have B2:=O b2;clear k2 b2)
  |fail)
 refine A.o _ _ ?_;clear A H;have b6:=B1.o.trans (B2.o.mono B1.o.size);have M:Hid (Xs w0 w F g h fc D sc W2):=O ⟨Kp.below b6,c9.o.up b6,K1.o.below B2.o,K2.o,HW.o.1.trans (b6.mono HW.o.1.size),c9.o.lts,HW.o.2⟩;clear B1 B2 K1 K2 b6 d4 s2 c9;have c16:=M.o.f.c16;refine wk fun H A=>?_;have G:=O (stC_at d1.o U.o.1 a2.o.1);by_cases h5:D.n=512
 .have f7:(D.n:Int)=512:=by omega
  have j:=HR.o;rw[if_pos h5]at j;have b4:=O j.symm;clear HR j h5;have k1:=(M.o.s.cell 1).trans G.o.2.1;have k2:=(M.o.s.cell 2).trans G.o.2.2.1;go_wp2_with fail;rw[b4.o];exact⟨z,M.o.k,z,D.n,D.mo,M.o.f⟩
 .have f7:¬ (D.n:Int)=512:=by omega
  have j:=HR.o;rw[if_neg h5]at j;have b4:=O j.symm;have a3:Hid (D.n<512):=O (by have:=HI.o.2;omega);clear HR j h5;go_wp2_with fail;refine A.o _ _ ?_;clear A H;have f9:(D.n:Int)<512:=by have:=a3.o;omega
  have f3:=(M.o.s.cell 21).trans G.o.2.2.2.2.2.2.2.1;have f8:=M.o.s.frozen 21;have f5:=M.o.f.f.frozen 16;refine wk fun H A=>?_;go_wp2_with fail;refine A.o _ _ ?_;clear A H;refine wk fun H A=>?_;go_wp2_with fail;refine A.o _ _ ?_;clear A H c16 f3 f8 f5 G;have g1:=M.o.setS (M.o.s.set1 21 (.int .i64 (D.n:Int))) (Ch.one 21 _ W2);rw[d1.o,(stC_set U.o.1 a2.o.1 (.slice none 0 0) (D.n:Int) false).2.2.1]at g1;have g2:=g1.setF 3 (.int .i64 ((D.n:Int)+1)) {D with n:=D.n+1} z (by simp[pfT]);have W:=O g2;clear g1 g2 M;generalize World.setCell (World.setCell _ _ _) _ _=W5 at *;have e8:Hid (PIv {D with n:=D.n+1}):=O ⟨HI.o.1,a3.o⟩
  have a9:=pex_all (h:=h) (fc:=fc) (F:=F) (g:=g) (D:={D with n:=D.n+1}) (l,c) y e0.o.2 yc W5 W.o.f (W.o.exs HY.o);obtain⟨r,Q⟩:∃r,fEx D.L (l,c) y=r:=⟨_,z⟩;have j:=b4.o;simp only at a9;rw[Q]at a9 j;clear Q b4;have c8:=O j;clear j;have G:=O (stC_at z U.o.1 a2.o.1 (C:=stC k l c s t S yc (.slice ab body.length a6) (.slice ae els.length a8) (D.n:Int) sl ot lo));have q1:=(W.o.s.cell 1).trans G.o.2.1;have q2:=(W.o.s.cell 2).trans G.o.2.2.1;have a7:W5.rangeAt w.1.size 12 yc:=by have h:=W.o.s;rw[stC_y]at h;have h2:=Blk.range h z;rw[show (Value.int .i64 k:: .int .i64 l:: .int .i64 c:: .string s:: .string t::S).length=12 by simp[U.o.1]]at h2;exact h2
  have a4:=O a7;clear a7;refine wk fun H A=>?_;go_wp2_with (first
   | ((with_reducible refine am _ (.load 58 _) ?_);refine wpList_load_mid z 58 (.tmp 31) z w.1.size 12 z yc d6 a4.o e4 e3 (by rw[a2.o.1];exact info58) ?_)
   |fail)
  refine a9.mono ?_;clear a9 q1 q2 a4 G;rintro e V5 ⟨J,X⟩;have K:=O (W.o.below J);rcases r with er|y'
  .obtain rfl:e= .panicked [flawN er]:=X;have j:=c8.o;obtain rfl:=j;exact⟨z,K.o.k,z,_,_,K.o.f⟩
  obtain⟨ys,rfl,hy⟩:=X;have a3:Hid (ExL (w.1.size+2<=·) V5 ys y'):=O (ExL.weak (fun c hc=>by have h1:W5.1.size<=c:=hc;have:=W.o.sz;show w.1.size+2<=c;omega) hy);have b5:=O hy.cells;have a5:=O (show Blk V5 w.1.size 60 ((.int .i64 k:: .int .i64 l:: .int .i64 c:: .string s:: .string t::S)++(yc++_)) by rw[<-stC_y];exact K.o.s);clear hy J W;go_wp2_with (first
   | ((with_reducible refine ah (.store 58 _ _) ?_);refine wpList_store_part info58 z (.tmp 36) (.tmp 35) z w.1.size 12 ys z z a5.o (by simp[U.o.1]) a2.o.1 b5.o ?_;intro T5 Z Y;rw[<-stC_y]at Z;have V:=O (K.o.setS Z Y);have e6:=O (Y.exW (by omega) a3.o);clear Z Y K a3 a5)
   |fail)
  refine A.o _ _ ?_;clear A H;have a1:=pex_all (h:=h) (fc:=fc) (F:=F) (g:=g) (D:={D with n:=D.n+1}) (l,c) x e0.o.1 S T5 V.o.f (V.o.exs HX.o);obtain⟨r,Q⟩:∃r,fEx D.L (l,c) x=r:=⟨_,z⟩;have j:=c8.o;simp only at a1 j;rw[Q]at a1 j;clear Q c8;have b9:=O j;clear j;have G:=O (stC_at z U.o.1 b5.o.1 (C:=stC k l c s t S ys (.slice ab body.length a6) (.slice ae els.length a8) (D.n:Int) sl ot lo));have q1:=(V.o.s.cell 1).trans G.o.2.1;have q2:=(V.o.s.cell 2).trans G.o.2.2.1;have a7:T5.rangeAt w.1.size 5 S:=by have h:=V.o.s;rw[stC_x]at h;exact Blk.range h z
  have a4:=O a7;clear a7;refine wk fun H A=>?_;go_wp2_with (first
   | ((with_reducible refine am _ (.load 58 _) ?_);refine wpList_load_mid z 58 (.tmp 38) z w.1.size 5 z S d6 a4.o e4 e3 (by rw[U.o.1];exact info58) ?_)
   |fail)
  refine a1.mono ?_;clear a1 q1 q2 a4 G;rintro e V6 ⟨J,X⟩;have K:=O (V.o.below J);rcases r with er|x'
  .obtain rfl:e= .panicked [flawN er]:=X;have j:=b9.o;obtain rfl:=j;exact⟨z,K.o.k,z,_,_,K.o.f⟩
  obtain⟨xs,rfl,hx⟩:=X;have e7:Hid (ExL (w.1.size+2<=·) V6 xs x'):=O (ExL.weak (fun c hc=>by have h1:T5.1.size<=c:=hc;have:=V.o.sz;show w.1.size+2<=c;omega) hx);have e9:=O (ExL.keep (fun b o u _ hu=>below_cell J b o u hu) e6.o);have d0:=O hx.cells;have a5:=O (show Blk V6 w.1.size 60 ([.int .i64 k,.int .i64 l,.int .i64 c,.string s,.string t]++(S++_)) by rw[<-stC_x];exact K.o.s);clear hx J V e6;go_wp2_with (first
   | ((with_reducible refine ah (.store 58 _ _) ?_);refine wpList_store_part info58 z (.tmp 43) (.tmp 42) z w.1.size 5 xs z z a5.o z U.o.1 d0.o ?_;intro T6 Z Y;rw[<-stC_x]at Z;have N:Hid (Ms w0 w F g h fc {D with n:=D.n+1} (stC k l c s t xs ys (.slice ab body.length a6) (.slice ae els.length a8) (D.n:Int) sl ot lo) xs ys x' y' T6):=O ⟨K.o.setS Z Y,Y.exW (by omega) e7.o,Y.exW (by omega) e9.o⟩;clear Z Y K e7 e9 a5)
   |fail)
  refine A.o _ _ ?_;clear A H;have G:=O (stC_at z d0.o.1 b5.o.1 (C:=stC k l c s t xs ys (.slice ab body.length a6) (.slice ae els.length a8) (D.n:Int) sl ot lo));have q0:=(N.o.1.s.cell 0).trans G.o.1;have j:=b9.o;simp only[stHead_eq]at j;have d3:=O j;clear j b9;refine wk fun H A=>?_;by_cases e1:k=1
  .have b8:=plet_any N.o.1.f N.o.1.s d0.o.1 b5.o.1 (by have:=N.o.1.lt;omega);obtain⟨r,Q⟩:∃r,letP {D with n:=D.n+1} (l,c) s=r:=⟨_,z⟩;rw[Q]at b8;have e5:=O Q;clear Q;subst e1;go_wp2_with fail;refine b8.mono ?_;clear b8 q0;intro e V7 X;rcases r with er|⟨⟩
   .obtain⟨rfl,J⟩:=X;have j:=d3.o;have E:=e5.o;rw[if_pos trivial]at j;unfold letP at E;have hq:R= .error er:=by
     rw[j];simp only at E;by_cases hs:(lkN D.L s).isSome=true
     .rw[if_pos hs]at E ⊢;cases E;rfl
     .rw[if_neg hs]at E ⊢;by_cases hl:D.loc=32
      .rw[if_pos hl]at E ⊢;cases E;rfl
      .rw[if_neg hl]at E;cases E
    rw[hq];have a0:=N.o.below J;exact⟨z,a0.1.k,z,_,_,a0.1.f⟩
   .obtain⟨rfl,f0,d9⟩:=X;have a0:=O (N.o.letS f0 d9);clear f0 d9 N;go_wp2_with fail;refine A.o _ _ ?_;have j:=d3.o;have E:=e5.o;rw[if_pos trivial]at j;unfold letP at E;simp only at E;by_cases hs:(lkN D.L s).isSome=true
    .rw[if_pos hs]at E;cases E
    .rw[if_neg hs]at E j;by_cases hl:D.loc=32
     .rw[if_pos hl]at E;cases E
     .rw[if_neg hl]at j;refine pst_w e8 (O a0.o.1) (O a0.o.2.1) (O a0.o.2.2) HB HE IB IE (O ?_);rw[wHead_none rfl,j]
  .go_wp2_with fail;refine A.o _ _ ?_;have j:=d3.o;rw[if_neg e1]at j;exact pst_w e8 (O N.o.1) (O N.o.2.1) (O N.o.2.2) HB HE IB IE (O j)
def delN(ns:List ByteArray)(L:List Nm):List Nm:=ns.foldl (fun L s=>L.eraseP fun x=>decide (x.text=s)) L
theorem delN_snoc(g:List ByteArray)(s:ByteArray)(L:List Nm):delN (g++[s]) L=(delN g L).eraseP fun x=>decide (x.text=s):=by simp[delN,List.foldl_append]
theorem erase_snoc(s:ByteArray)(x:Nm)(h:x.text≠s):∀L:List Nm,(L++[x]).eraseP (fun y=>decide (y.text=s))=L.eraseP (fun y=>decide (y.text=s))++[x]
 | []=>by simp[h]
 |y::r=>by
  by_cases g:y.text=s
  .simp[g]
  .simp[g,erase_snoc s x h r]
theorem delN_app(x:Nm):∀ (g:List ByteArray) (L:List Nm),x.text∉g->delN g (L++[x])=delN g L++[x]
 | [],L,_=>rfl
 |s::r,L,h=>by
  show delN r ((L++[x]).eraseP _)=delN r (L.eraseP _)++[x]
  rw[erase_snoc s x (fun e=>h (by simp[e])),delN_app x r _ (fun e=>h (by simp[e]))]
theorem lkN_none{L:List Nm}:lkN L s=none↔∀x∈L,x.text≠s:=by simp[lkN,List.find?_eq_none]
def Loc(D D2:PF)(ns:List ByteArray):Prop:=(∃news:List Nm,D2.L=D.L++news/\news.map (·.text)=ns)/\delN ns D2.L=D.L/\D2.loc=D.loc+ns.length/\D2.ce=D.ce
theorem Loc.refl(D:PF):Loc D D []:=⟨⟨[],by simp,z⟩,z,z,z⟩
theorem Loc.cnt{D:PF}{g:List ByteArray}(h:Loc D F g)(n mo:Nat):Loc D {F with n:=n,mo:=mo} g:=h
theorem Loc.snoc{D:PF}{g:List ByteArray}(h:Loc D F g)(N:lkN F.L s=none)(n mo:Nat):Loc D {F with L:=F.L++[Nm.mk s 0 F.loc],loc:=F.loc+1,n:=n,mo:=mo} (g++[s]):=by
 obtain⟨⟨G,w,C⟩,J,M,K⟩:=h;have E:=lkN_none.1 N;have Q:s∉g:=fun A=>by rw[<-C]at A;obtain⟨x,j,H⟩:=List.mem_map.1 A;exact E x (by rw[w];simp[j]) H
 refine⟨⟨G++[Nm.mk s 0 F.loc],by simp[w],by simp[C]⟩,?_,by simp[M];omega,K⟩;rw[delN_snoc];show (delN g (F.L++[Nm.mk s 0 F.loc])).eraseP _=D.L;rw[delN_app _ _ _ Q,J,List.eraseP_append_right]
 .simp
 .intro x j;simpa using E x (by rw[w];simp[j])
mutual
theorem fSt_cnt:∀ (s:St) (L:List Nm) (loc n mo:Nat) (s':St) (n2 mo2:Nat),fSt L loc n mo s= .ok (s',n2,mo2)->n+1<=n2
 | .mk k l c s t x y body els id sl ot lo,L,loc,n,mo,s',n2,mo2,h=>by
  rw[fSt_mk]at h
  split at h
  .cases h
  cases hy:fEx L (l,c) y with
  |error e=>rw[hy]at h;cases h
  |ok y'=>
   rw[hy]at h
   cases hx:fEx L (l,c) x with
   |error e=>rw[hx]at h;cases h
   |ok x'=>
    rw[hx]at h
    cases hq:stHead L loc (l,c) k s t sl ot lo with
    |error e=>rw[hq]at h;cases h
    |ok q=>
     rw[hq]at h
     simp only[stTl]at h
     cases hb:fSts L loc (n+1) mo body with
     |error e=>rw[hb]at h;cases h
     |ok b=>
      obtain⟨b,n3,mo3⟩:=b
      rw[hb]at h
      have h3:=fSts_cnt body L loc (n+1) mo b n3 mo3 hb
      simp only at h
      cases he:fSts L loc n3 mo3 els with
      |error e=>rw[he]at h;cases h
      |ok b2=>
       obtain⟨b2,n4,mo4⟩:=b2
       rw[he]at h
       cases h
       exact Nat.le_trans h3 (fSts_cnt els L loc n3 mo3 b2 n2 mo2 he)
theorem fSts_cnt:∀ (r:List St) (L:List Nm) (loc n mo:Nat) (r':List St) (n2 mo2:Nat),fSts L loc n mo r= .ok (r',n2,mo2)->n<=n2
 | [],L,loc,n,mo,r',n2,mo2,h=>by
  rw[fSts]at h
  cases h
  exact Nat.le_refl _
 |s::r,L,loc,n,mo,r',n2,mo2,h=>by
  rw[fSts_con]at h
  cases hs:fSt L loc n mo s with
  |error e=>rw[hs]at h;cases h
  |ok q=>
   obtain⟨s',n3,mo3⟩:=q
   rw[hs]at h
   have h3:=fSt_cnt s L loc n mo s' n3 mo3 hs
   simp only at h
   cases hr:fSts (afterS L loc mo3 s).1 (afterS L loc mo3 s).2.1 n3 (afterS L loc mo3 s).2.2 r with
   |error e=>rw[hr]at h;cases h
   |ok b=>
    obtain⟨b,n4,mo4⟩:=b
    rw[hr]at h
    cases h
    have:=fSts_cnt r _ _ _ _ b n2 mo2 hr
    omega
end
theorem fSt_form{L:List Nm}{loc mo:Nat}{k l c:Int}{x y:Ex}{body els:List St}{id sl ot:Int}{lo:Bool}(h:fSt L loc n mo (.mk k l c s t x y body els id sl ot lo)= .ok (B0,n2,j)):
  ∃A w b' e' G K H,B0= .mk k l c s t A w b' e' (n:Int) G K H/\(k=1->G=(loc:Int)/\lkN L s=none/\loc≠32):=by
 rw[fSt_mk]at h;split at h
 .cases h
 cases F:fEx L (l,c) y with
 |error e=>rw[F]at h;cases h
 |ok w=>
  rw[F]at h;cases D:fEx L (l,c) x with
  |error e=>rw[D]at h;cases h
  |ok A=>
   rw[D]at h;cases g:stHead L loc (l,c) k s t sl ot lo with
   |error e=>rw[g]at h;cases h
   |ok q=>
    rw[g]at h;simp only[stTl]at h;cases C:fSts L loc (n+1) mo body with
    |error e=>rw[C]at h;cases h
    |ok b=>
     obtain⟨b,n3,J⟩:=b;rw[C]at h;simp only at h;cases E:fSts L loc n3 J els with
     |error e=>rw[E]at h;cases h
     |ok b2=>
      obtain⟨b2,n4,R⟩:=b2;rw[E]at h;cases h;refine⟨A,w,b,b2,q.1,q.2.1,q.2.2,z,fun N=>?_⟩;rw[stHead_eq,if_pos N]at g;split at g
      .cases g
      split at g
      .cases g
      .cases g;rename_i Q M;exact⟨z,by simpa using Q,M⟩
def elX{α:Type}(E:El α)(av:Nat->Prop):El α:=⟨E.ty,E.sz,fun ok w cs x=>E.L (fun c=>ok c/\¬av c) w cs x,fun h1 h2=>E.keep (fun b o v hb hv=>h1 b o v hb.1 hv) h2,fun h1 h2=>E.weak (fun b hb=>⟨h1 b hb.1,hb.2⟩) h2,fun h=>E.cells h,fun h=>E.weak (fun _b hb=>⟨⟨hb.1.1,hb.2⟩,hb.1.2⟩) (E.bound h)⟩
section
variable {α:Type} {E:El α} {av av':Nat→Prop} {B:Nat} {w w':World} {v:Value} {l:List α}
theorem Grow.own_lt(h:Grow E B w v l)(j:v.ownBlock=some c):B<=c/\c<w.1.size:=by obtain⟨cells,-,g,-⟩:=h.own;exact g.lt c j
theorem Grow.outX(h:Grow (elX E av) B w v l):Grow E B w v l:=by obtain⟨cells,D,C,A⟩:=h.own;exact⟨cells,D,C,fun i cs x g j=>E.weak (fun c g=>g.1) (A i cs x g j)⟩
theorem Grow.keepX(h:Grow (elX E av) B w v l)(H:∀c,c<w.1.size->B<=c->¬av c->w'.1[c]? =w.1[c]?)(V:w.1.size<=w'.1.size)(J:∀c,v.ownBlock=some c->¬av c)(N:∀c,c<w.1.size->av' c->av c):Grow (elX E av') B w' v l:=by
 obtain⟨cells,U,F,M⟩:=h.own;refine⟨cells,U,⟨F.1,?_⟩,fun i cs x j K=>?_⟩
 .rcases F.2 with A|⟨g,cap,S,A,D,G,R⟩
  .exact .inl A
  .exact .inr ⟨g,cap,S,A,D,(H g (Array.getElem?_eq_some_iff.1 G).1 D (J g (by rw[A];rfl))).trans G,R⟩
 .have A:=E.bound (M i cs x j K);exact E.weak (fun c j=>⟨⟨j.1.1.1,Nat.lt_of_lt_of_le j.2 V⟩,fun e=>j.1.2 (N c j.2 e)⟩) (E.keep (fun b o v C Q=>by rw[<-Q];simp[World.cellF,H b C.2 C.1.1.1.1 C.1.2]) A)
theorem Grow.flat(C:∀ (ok ok':Nat->Prop) (w w':World) (cs:List Value) (x:α),E.L ok w cs x->E.L ok' w' cs x)(h:Grow E B w v l)(Q:∀c,v.ownBlock=some c->w'.1[c]? =w.1[c]?):Grow E B w' v l:=by
 obtain⟨cells,N,A,F⟩:=h.own;refine⟨cells,N,⟨A.1,?_⟩,fun i cs x M D=>C _ _ _ _ _ _ (F i cs x M D)⟩;rcases A.2 with j|⟨g,cap,K,j,G,J,H⟩
 .exact .inl j
 .exact .inr ⟨g,cap,K,j,G,(Q g (by rw[j];rfl)).trans J,H⟩
end
theorem Fi.setC{w':World}{F h:Nat}{pc:List Value}{D:PF}(H:Fi w F g h pc D){D':PF}(A:Blk w' F 101 ((pc++pfT g h D).set (13+j) v))(G:Ch F w w')(C:D'.L=D.L)(E:(pfT g h D).set j v=pfT g h D'):Fi w' F g h pc D':=by rw[show 13+j=pc.length+j by rw[H.lp],set_right,E]at A;obtain⟨o,vs,rfl⟩:=G;exact⟨H.lp,A,by rw[C];exact H.m.of (heap_setCells (Ne.symm H.fg) _ _ _),(heap_setCells (Ne.symm H.fh) _ _ _).trans H.wm,H.fg,H.fh,H.gh⟩
theorem Ch.hpc{w':World}(h:Ch b w w')(g:c≠b):w'.1[c]? =w.1[c]? :=by obtain⟨o,vs,rfl⟩:=h;exact heap_setCells g _ _ _
theorem Blk.ptr{T:TypeId}(h:Blk W b T [v]):W.cell? ⟨b,0,none⟩=some v:=h.cell 0
theorem elS_flat(ok ok':Nat->Prop)(w w':World)(cs:List Value)(x:ByteArray)(h:elS.L ok w cs x):elS.L ok' w' cs x:=h
structure Bb (w0 w:World) (F g h:Nat) (fc:List Value) (D:PF) (mv:Value) (W:World):Prop where
 k:Kp w W F g
 f:Fi W F g h fc D
 z:Blk W w.1.size 96 [.pointer (some ⟨F,0,none⟩)]
 m:Blk W (w.1.size+1) 26 [mv]
 b:Below w0.1.size w0 W
 lt:(F<w.1.size/\g<w.1.size/\h<w.1.size)/\w0.1.size<=F/\w0.1.size<=g
section
variable {w0 w W W':World} {F g h:Nat} {fc:List Value} {D D':PF} {mv mv':Value}
theorem Bb.sz(H:Bb w0 w F g h fc D mv W):w.1.size+2<=W.1.size:=H.m.lt
theorem Bb.below2(H:Bb w0 w F g h fc D mv W)(j:Below (w.1.size+2) W W'):Bb w0 w F g h fc D mv W':=by have A:=H.lt;have G:=H.sz;exact⟨⟨j.os.trans H.k.os,j.tape.trans H.k.tape,j.output.trans H.k.output,Nat.le_trans H.k.size j.size,fun c C A E=> (j.block c (by omega)).trans (H.k.block c C A E)⟩,H.f.below j (by omega) (by omega) (by omega),H.z.of (j.block _ (by omega)),H.m.of (j.block _ (by omega)),H.b.trans (j.mono (by omega)),H.lt⟩
theorem Bb.below(H:Bb w0 w F g h fc D mv W)(j:bL W W'):Bb w0 w F g h fc D mv W':=H.below2 (j.mono H.sz)
theorem Bb.ch(H:Bb w0 w F g h fc D mv W)(j:w.1.size+2<=b)(A:Ch b W W'):Bb w0 w F g h fc D mv W':=H.below2 (A.below j (Below.refl _ _))
theorem Bb.setM(H:Bb w0 w F g h fc D mv W)(E:Blk W' (w.1.size+1) 26 [mv'])(j:Ch (w.1.size+1) W W'):Bb w0 w F g h fc D mv' W':=by have J:=H.lt;refine⟨?_,H.f.ch j (by omega) (by omega) (by omega),j.blk (by omega) H.z,E,j.below (by omega) H.b,H.lt⟩;have A:=j.kp;exact⟨A.os.trans H.k.os,A.tape.trans H.k.tape,A.output.trans H.k.output,Nat.le_trans H.k.size A.size,fun c j C G=> (A.block c (Nat.lt_of_lt_of_le j H.k.size) (by omega) (by omega)).trans (H.k.block c j C G)⟩
theorem Bb.call(H:Bb w0 w F g h fc D mv W)(j:Kp W W' F g)(A:Fi W' F g h fc D'):Bb w0 w F g h fc D' mv W':=by have E:=H.lt;have C:=H.sz;exact⟨H.k.trans j,A,H.z.kp j (by omega) (by omega),H.m.kp j (by omega) (by omega),j.to_below H.b (by omega) (by omega) (by omega),H.lt⟩
theorem ChM.kpF(j:ChM g W W'):Kp W W' F g:=⟨j.os,j.tape,j.output,Nat.le_of_eq j.size.symm,fun c _ _ A=>j.block c A⟩
theorem Bb.map(H:Bb w0 w F g h fc D mv W)(j:ChM g W W'){L:List Nm}(A:MpN W' g L):Bb w0 w F g h fc {D with L:=L} mv W':=H.call j.kpF (H.f.map j A)
end
theorem clo_any{F h z:Nat}{fc:List Value}{D:PF}{A:List ByteArray}(u:FrameMode)(H:Fi w F g h fc D)(hz:Blk w z 96 [Pt F])(Y:Blk w m 26 [.slice a0 A.length n0])(a3:Ro elS (fun c=>c≠F/\c≠g) w (.slice a0 A.length n0) A)(a9:z≠F/\z≠g/\m≠F/\m≠g)(hl:A.length<=D.loc/\D.loc<=32):
  CallsD Tryz.prog 116 #[Pt m,Pt z] u w fun e u' w'=>u'=u/\(e= .returned (.tuple #[])/\Kp w w' F g/\Fi w' F g h fc {D with L:=delN A D.L,loc:=D.loc-A.length}):=by
 obtain⟨G,hN⟩:=eX (A.length);rw[hN]at Y a3 hl ⊢;have HN:=O hN;have HH:=O H;have HZ:=O hz;have HM:=O Y;have b6:=O a3;have V:=O a9;have HL:=O hl;have d4:G<=32:=by omega
 have U:=Y.cell 0;have Q:=hz.cell 0;simp only[List.getElem?_cons_zero]at U Q;clear H hz Y a3 a9 hl hN;refine callsD_of_wp Tryz.func116 rfl ?_;simp only[Tryz.ntmps116,List.size_toArray,List.length_cons,List.length_nil,Nat.reduceAdd,Nat.reduceSub,Array.replicate_succ,Array.replicate_zero,List.push_toArray,List.append_toArray,List.nil_append,List.cons_append];refine wk fun KK b8=>?_;go_wp2;clear U Q;go_loopg [6] G (fun x iv wr=>∃i:Nat,i<=G/\x=G-i/\iv=I i/\Hid (Fi wr F g h fc {D with L:=delN (A.take i) D.L})/\Hid (Kp w wr g g));case atStart=>exact⟨0,Nat.zero_le _,rfl,rfl,O HH,O (Kp.refl _ _ _)⟩
 case round=>
  obtain⟨i,hi,rfl,rfl,S,K⟩:=hrel;have Z:=O (HZ.kp K V.2.1 V.2.1);have a4:=O (HM.kp K V.2.2.2 V.2.2.2);by_cases c8:i<G
  .have d2:(i:Int)< (G:Int):=by omega
   have d0:(0:Int)<=(i:Int):=by omega
   have d5:(i:Int)+1<=1000:=by omega
   obtain⟨s,hs⟩:∃s,A[i]? =some s:=⟨_,List.getElem?_eq_getElem (by rw[HN.o];exact c8)⟩;obtain⟨a,cap,he,-,a5⟩:=b6;obtain⟨b,a1,cs,ha,a7,b4,rfl⟩:=a5 i s hs;obtain rfl:a0=a:=by cases he;rfl
   subst ha;have gi:wr.cell? ⟨b,a1+i,none⟩=some (.string s):=by have E:=World.cellF_cell (b4 0 (.string s) rfl);rw[show a1+i*elS.sz+0=a1+i by simp[elS]]at E;rw[<-E];simp[World.cell?,K.o.block b (World.block_lt_of_cell? w _ E) a7.2 a7.2]
   obtain⟨M,d3,a8,a2⟩:=del_nm S.m s;have c13:=S.c13;have Q:=Z.cell 0;simp only[List.getElem?_cons_zero]at Q;have HE:Hid (Fi M F g h fc {D with L:=delN (A.take (i+1)) D.L}/\Kp w M g g):=O ⟨by have E:=S.map a2 a8;rw[List.take_add_one,hs];show Fi M F g h fc {D with L:=delN (A.take i++[s]) D.L};rw[delN_snoc];exact E,K.trans a2.kp⟩
   clear a8 a2 he a5 b4 hs;go_wp2;go_roundg (G- (i+1));case measure=>omega
   case rel=> refine⟨i+1,by omega,rfl,?_,O HE.1,O HE.2⟩;exact congrArg (Value.int .i64) (by omega)
  .obtain rfl:i=G:=by omega
   have d1:¬ (i:Int)< (i:Int):=by omega
   have a6:Hid (Fi wr F g h fc {D with L:=delN A D.L}):=O (by have E:=S.o;rw[<-HN.o,List.take_length]at E;exact E)
   clear S;go_wp2;apply b8;have b5:Tryz.prog.follows .mixedOrders=true:=by kernel_rfl
   obtain⟨R,X⟩:=eX (wr.drew);have C:Hid (Fi R F g h fc {D with L:=delN A D.L}/\Blk R z 96 [Pt F]/\Blk R m 26 [.slice a0 i n0]):=O (by rw[<-X];exact⟨a6.up (Below.refl _ _).drew,Z.drew,a4.drew⟩);have N:Hid (Kp w R g g):=O (X▸K.o.drew);clear K a6 Z a4;go_wp2;apply wp_region_x [9] (fun W=>Fi W F g h fc {D with L:=delN A D.L}/\Blk W z 96 [Pt F]/\Blk W m 26 [.slice a0 i n0]) b5;rw[X];clear X;refine wpX_takeD 0 (some 16) (v:=?_) rfl rfl (by kernel_rfl) (fun _ _ _ h=>h) C (Or.inl ⟨by rfl,?_⟩) ?_;rotate_left
   .intro M J;have Q:=J.2.1.cell 0;simp only[List.getElem?_cons_zero]at Q;clear J;go_simp;first|with_reducible rfl|rw[if_neg (by omega)]
   refine ak 1 ?_;refine af _ 3 (fun M J=>J.1.c17) ?_;refine nm ?_;refine wpX_takeD 4 (some 20) (v:=?_) rfl rfl (by kernel_rfl) (fun _ _ _ h=>h) C (Or.inl ⟨by rfl,?_⟩) ?_;rotate_left
   .intro M J;have U:=J.2.2.cell 0;simp only[List.getElem?_cons_zero]at U;clear J;go_simp;first|with_reducible rfl|rw[if_neg (by omega)]
   refine ai 5 ?_;refine nm ?_;refine ag 8 ?_;refine nm ?_;refine oD 9 fun c9 hK=>?_;have hv:IntKind.i64.wrap ((D.loc:Int)- (i:Int))=((D.loc-i:Nat):Int):=by have:=HL.o;rw[IntWalk.i64_in _ (by omega)];omega
   refine wp_store_one info3 (.tmp 24) (.tmp 22) rfl F 17 101 (I ((D.loc-i:Nat):Int)) _ rfl (by first|rfl| (rw[<-hv];rfl)) rfl rfl C.1.f (by simp[pfT,C.o.1.lp]) ?_;intro V3 k3 c3;have b7:Hid (Fi V3 F g h fc {D with L:=delN A D.L,loc:=D.loc-i}):=O (C.o.1.setC (j:=4) k3 c3 rfl rfl);have b9:Hid (Kp w V3 F g):=O ⟨c3.kp.os.trans N.os,c3.kp.tape.trans N.tape,c3.kp.output.trans N.output,Nat.le_trans N.size c3.kp.size,fun c hc E h2=> (c3.kp.block c (Nat.lt_of_lt_of_le hc N.size) E E).trans (N.block c hc h2 h2)⟩;apply hK _ _ nofun;clear hK c9 k3 c3;try simp only[Act.put]
   refine dn ?_;go_wp2;go_end0;exact⟨rfl,b9,b7⟩
def Yes(W:World)(e:Ending)(w':World):Prop:=e= .returned (.bool true)/\Below W.1.size W w'
theorem Ro.cell1{j:Type}{E:El j}{ok:Nat->Prop}{cap:Nat}{l:List j}(h:Ro E ok W (.slice a n cap) l){x:j}(K:l[i]? =some x)(M:E.sz=1)(G:∀cs,E.L ok W cs x->cs=[v]):∃b g,a=some ⟨b,g,none⟩/\W.cell? ⟨b,g+i,none⟩=some v:=by obtain⟨Q,N,F,-,A⟩:=h;obtain⟨b,g,cs,D,-,C,J⟩:=A i x K;cases F;refine⟨b,g,D,?_⟩;have H:=G cs J;subst H;have w:=C 0 v z;rw[M,Nat.mul_one,Nat.add_zero]at w;exact World.cellF_cell w
theorem rvals_yes{Q Q0:Nat->Prop}(l:List Int)(A:Ro (elI 2) Q W v0 l)(C:Ro (elI 2) Q0 W v1 l):Calls Tryz.prog 26 #[v0,v1] W (Yes W):=by
 have Z:Tryz.prog.follows .mixedOrders=true:=by kernel_rfl
 obtain⟨a1,c1,rfl,K,-⟩:=id A;obtain⟨a2,c2,rfl,Y,-⟩:=id C;obtain⟨j,N⟩:=eX (l.length);rw[N]at A C K ⊢;have HN:=O N;have H1:=O A;have H2:=O C;have U:=O fun _:True=>K;clear N A C K Y;go_in;go_wp2;go_loopg [5] j (fun x iv wr=>∃i:Nat,i<=j/\x=j-i/\iv=I i/\Hid (bL W wr));case atStart=>exact⟨0,Nat.zero_le _,z,z,O (Below.refl _ _)⟩
 case round=>
  obtain⟨i,hi,rfl,rfl,G⟩:=hrel;by_cases a4:i<j
  .have a7:(i:Int)< (j:Int):=by omega
   have a8:(0:Int)<=(i:Int):=by omega
   have a0:Hid (wrap64 ((i:Int)+1)=((i+1:Nat):Int)):=O (by have A:=(U trivial).1;have C:=(U trivial).2;have:=IntWalk.wrap64_in ((i:Int)+1) (by omega);rw[this];omega)
   obtain⟨x,J⟩:∃x,l[i]? =some x:=⟨_,List.getElem?_eq_getElem (by rw[HN.o];exact a4)⟩;obtain⟨b1,o1,rfl,R⟩:=H1.cell1 J z (v:=I x) (fun cs h=>h);obtain⟨b2,o2,rfl,S⟩:=H2.cell1 J z (v:=I x) (fun cs h=>h);obtain⟨w,M⟩:=eX (wr.drew);have H:Hid (bL W w):=O (by rw[<-M];exact G.trans ((Below.refl _ _).drew));have F:=below_cl H b1 (o1+i) _ R;have E:=below_cl H b2 (o2+i) _ S;have a3:=O F;have a5:=O E;clear R S F E J;go_wp2;apply wp_region_x [] (fun V=>V=w) Z;rw[M];clear M G;have g:Hid (w=w):=O z;refine ai 0 ?_;refine wpX_takeD 3 (some 20) (v:=?_) z z (by kernel_rfl) (fun _ _ _ h=>h) g (Or.inl ⟨by rfl,?_⟩) ?_;rotate_left
   .intro X D;have F:=a3.o;rw[D];clear D;go_simp;first|with_reducible rfl|rw[if_neg (by omega)]
   refine nm ?_;refine ai 4 ?_;refine wpX_takeD 7 (some 24) (v:=?_) z z (by kernel_rfl) (fun _ _ _ h=>h) g (Or.inl ⟨by rfl,?_⟩) ?_;rotate_left
   .intro X D;have E:=a5.o;rw[D];clear D;go_simp;first|with_reducible rfl|rw[if_neg (by omega)]
   refine nm ?_;refine ag 8 ?_;refine nm ?_;refine dn ?_;clear g;go_wp2;go_roundg (j- (i+1));case measure=>omega
   case rel=>exact⟨i+1,by omega,z,congrArg (Value.int .i64) a0,H⟩
  .obtain rfl:i=j:=by omega
   have a6:¬ (i:Int)< (i:Int):=by omega
   go_wp2;go_ret;exact⟨z,G⟩
theorem rints_yes{Q Q0:Nat->Prop}(l:List Int)(A:Ro (elI 3) Q W v0 l)(C:Ro (elI 3) Q0 W v1 l):Calls Tryz.prog 27 #[v0,v1] W (Yes W):=by
 have Z:Tryz.prog.follows .mixedOrders=true:=by kernel_rfl
 obtain⟨a1,c1,rfl,K,-⟩:=id A;obtain⟨a2,c2,rfl,Y,-⟩:=id C;obtain⟨j,N⟩:=eX (l.length);rw[N]at A C K ⊢;have HN:=O N;have H1:=O A;have H2:=O C;have U:=O fun _:True=>K;clear N A C K Y;go_in;go_wp2;go_loopg [5] j (fun x iv wr=>∃i:Nat,i<=j/\x=j-i/\iv=I i/\Hid (bL W wr));case atStart=>exact⟨0,Nat.zero_le _,z,z,O (Below.refl _ _)⟩
 case round=>
  obtain⟨i,hi,rfl,rfl,G⟩:=hrel;by_cases a4:i<j
  .have a7:(i:Int)< (j:Int):=by omega
   have a8:(0:Int)<=(i:Int):=by omega
   have a0:Hid (wrap64 ((i:Int)+1)=((i+1:Nat):Int)):=O (by have A:=(U trivial).1;have C:=(U trivial).2;have:=IntWalk.wrap64_in ((i:Int)+1) (by omega);rw[this];omega)
   obtain⟨x,J⟩:∃x,l[i]? =some x:=⟨_,List.getElem?_eq_getElem (by rw[HN.o];exact a4)⟩;obtain⟨b1,o1,rfl,R⟩:=H1.cell1 J z (v:=I x) (fun cs h=>h);obtain⟨b2,o2,rfl,S⟩:=H2.cell1 J z (v:=I x) (fun cs h=>h);obtain⟨w,M⟩:=eX (wr.drew);have H:Hid (bL W w):=O (by rw[<-M];exact G.trans ((Below.refl _ _).drew));have F:=below_cl H b1 (o1+i) _ R;have E:=below_cl H b2 (o2+i) _ S;have a3:=O F;have a5:=O E;clear R S F E J;go_wp2;apply wp_region_x [] (fun V=>V=w) Z;rw[M];clear M G;have g:Hid (w=w):=O z;refine ai 0 ?_;refine wpX_takeD 3 (some 20) (v:=?_) z z (by kernel_rfl) (fun _ _ _ h=>h) g (Or.inl ⟨by rfl,?_⟩) ?_;rotate_left
   .intro X D;have F:=a3.o;rw[D];clear D;go_simp;first|with_reducible rfl|rw[if_neg (by omega)]
   refine nm ?_;refine ai 4 ?_;refine wpX_takeD 7 (some 24) (v:=?_) z z (by kernel_rfl) (fun _ _ _ h=>h) g (Or.inl ⟨by rfl,?_⟩) ?_;rotate_left
   .intro X D;have E:=a5.o;rw[D];clear D;go_simp;first|with_reducible rfl|rw[if_neg (by omega)]
   refine nm ?_;refine ag 8 ?_;refine nm ?_;refine dn ?_;clear g;go_wp2;go_roundg (j- (i+1));case measure=>omega
   case rel=>exact⟨i+1,by omega,z,congrArg (Value.int .i64) a0,H⟩
  .obtain rfl:i=j:=by omega
   have a6:¬ (i:Int)< (i:Int):=by omega
   go_wp2;go_ret;exact⟨z,G⟩
theorem rstrs_yes{Q Q0:Nat->Prop}(l:List ByteArray)(A:Ro elS Q W v0 l)(C:Ro elS Q0 W v1 l):Calls Tryz.prog 28 #[v0,v1] W (Yes W):=by
 have Z:Tryz.prog.follows .mixedOrders=true:=by kernel_rfl
 obtain⟨a1,c1,rfl,K,-⟩:=id A;obtain⟨a2,c2,rfl,Y,-⟩:=id C;obtain⟨j,N⟩:=eX (l.length);rw[N]at A C K ⊢;have HN:=O N;have H1:=O A;have H2:=O C;have U:=O fun _:True=>K;clear N A C K Y;go_in;go_wp2;go_loopg [5] j (fun x iv wr=>∃i:Nat,i<=j/\x=j-i/\iv=I i/\Hid (bL W wr));case atStart=>exact⟨0,Nat.zero_le _,z,z,O (Below.refl _ _)⟩
 case round=>
  obtain⟨i,hi,rfl,rfl,G⟩:=hrel;by_cases a4:i<j
  .have a7:(i:Int)< (j:Int):=by omega
   have a8:(0:Int)<=(i:Int):=by omega
   have a0:Hid (wrap64 ((i:Int)+1)=((i+1:Nat):Int)):=O (by have A:=(U trivial).1;have C:=(U trivial).2;have:=IntWalk.wrap64_in ((i:Int)+1) (by omega);rw[this];omega)
   obtain⟨x,J⟩:∃x,l[i]? =some x:=⟨_,List.getElem?_eq_getElem (by rw[HN.o];exact a4)⟩;obtain⟨b1,o1,rfl,R⟩:=H1.cell1 J z (v:= .string x) (fun cs h=>h);obtain⟨b2,o2,rfl,S⟩:=H2.cell1 J z (v:= .string x) (fun cs h=>h);obtain⟨w,M⟩:=eX (wr.drew);have H:Hid (bL W w):=O (by rw[<-M];exact G.trans ((Below.refl _ _).drew));have F:=below_cl H b1 (o1+i) _ R;have E:=below_cl H b2 (o2+i) _ S;have a3:=O F;have a5:=O E;clear R S F E J;go_wp2;apply wp_region_x [] (fun V=>V=w) Z;rw[M];clear M G;have g:Hid (w=w):=O z;refine ai 0 ?_;refine wpX_takeD 3 (some 20) (v:=?_) z z (by kernel_rfl) (fun _ _ _ h=>h) g (Or.inl ⟨by rfl,?_⟩) ?_;rotate_left
   .intro X D;have F:=a3.o;rw[D];clear D;go_simp;first|with_reducible rfl|rw[if_neg (by omega)]
   refine nm ?_;refine ai 4 ?_;refine wpX_takeD 7 (some 24) (v:=?_) z z (by kernel_rfl) (fun _ _ _ h=>h) g (Or.inl ⟨by rfl,?_⟩) ?_;rotate_left
   .intro X D;have E:=a5.o;rw[D];clear D;go_simp;first|with_reducible rfl|rw[if_neg (by omega)]
   refine nm ?_;refine ag 8 ?_;refine nm ?_;refine dn ?_;clear g;go_wp2;go_roundg (j- (i+1));case measure=>omega
   case rel=>exact⟨i+1,by omega,z,congrArg (Value.int .i64) a0,H⟩
  .obtain rfl:i=j:=by omega
   have a6:¬ (i:Int)< (i:Int):=by omega
   go_wp2;go_ret;exact⟨z,G⟩
end Go.Proofs.YtgppcdfgdaggjaaGreatDoor
