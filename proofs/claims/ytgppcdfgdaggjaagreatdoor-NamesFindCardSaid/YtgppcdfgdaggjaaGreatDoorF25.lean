/- Texts laid together. No condition but what each law says. -/
import Derived.Test.YtgppcdfgdaggjaaGreatDoorF24
import Derived.Test.YtgppcdfgdaggjaaGreatDoorF20
set_option maxRecDepth 100000
set_option maxHeartbeats 8000000
namespace Go.Proofs.YtgppcdfgdaggjaaGreatDoor
open Go.RowKit Go.Maps Go.Proofs.Tryz
open Go.Instr renaming findNow→Hc,mapUpdate→HJ
open Go.MapKept renaming IsKey→GQ
open Go renaming Value→Fr,World→Fk,Calls→Jq,undef→Gm,wpList_load_mid→Gn
open Go.RowKit.Below renaming refl→FB
open Nat renaming le_of_eq→GB,reduceAdd→Ij,reduceSub→Ik,le_refl→FL,le_trans→FU,zero_le→FX,lt_of_lt_of_le→FJ
open Go.World renaming alloc_heap_new→Df
open _root_.Array renaming replicate_succ→Hz,replicate_zero→HA,getElem?_eq_some_iff→FT
open List renaming append_toArray→HI,cons_append→GM,length_cons→FV,length_nil→Gg,nil_append→Hw,push_toArray→HO,size_toArray→Hh,getElem?_cons_succ→FH,getElem?_cons_zero→FE,getD_eq_getElem?_getD→FD,getElem?_eq_none→GV,getElem?_eq_some_iff→FW,mem_append→GG,mem_singleton→Hq,mem_cons→FQ,not_mem_nil→FO,all_eq_true→GC,drop_length→Hn,getElem?_eq_getElem→FC,getElem_mem→Gy,replicate→Ie,length_set→Hs
open Go.Act renaming put→Gf
open And renaming intro→EQ
open Go.RowKit renaming Below→FM
open Or renaming inl→GJ
open Go.IntWalk renaming wrap64_in→Gi
open Go.Value renaming int→Gr
variable {W w w0:Fk}{c g i j n n0 n5 n6 n7:Nat}{l2 l3:List Fr}{p p0 q r:Int}{A:Act}{u0 u1 u2 u3 u4 u5 u6 u7 u8 u9 v v0 v1 v2 v3 v4 v5 v6 v7 v8 v9 vA vB vC vD vE vF vG vH vI vJ vK vL vM vN vP vQ vR vS vT vU vV vW vX vY vZ x0 x1 x2 x3 x4 x5 x6 x7 x8 x9 y0 y1 y2 y3 y4 y5 y6 y7 y8 y9:Fr}{G:Pg}{N:List Nm}{a a0 a1:Option Addr}
theorem fw{j:List MapEntry}(h:w.1[g]? =some (.map j.toArray n))(k:Int)(v:Fr)(D:Hc (.int .i64) (I k) j 0=some none):
  ∃W,(HJ 98 (.map (some g)) (I k) v).run prog w= .ok () W/\W.1[g]? =some (.map (j++[(⟨I k,v,n⟩:MapEntry)]).toArray (n+1))/\iz g w W:=by
 have A:GQ (.int .i64) (I k):=by simp[GQ]
 have C:Hc (.int .i64) (I k) j.toArray.toList 0=some none:=by simpa using D
 refine⟨{w with heap:=w.1.setIfInBounds g (.map (j++[(⟨I k,v,n⟩:MapEntry)]).toArray (n+1))},?_,(MapKept.heap_set h).1,jP h⟩;simp[HJ,run_underlying mp,MapKept.run_getObj_map h,MapKept.run_checkKey hi A,MapKept.run_findKey hi C,MapKept.run_setObj_map _ h,Result.andThen]
theorem pz(w:Fk):Jq prog 36 #[] w fun e w'=>∃g,e= .returned (.map (some g))/\w.1.size<=g/\w'.1[g]? =some (.map gA.toArray 10)/\bL w w':=by
 obtain⟨g,j⟩:=eX (w.1.size);obtain⟨C,A⟩:=eX (w.alloc (.map #[] 0));have d2:(Instr.makeMap 98 none).run prog w= .ok (.map (some g)) C:=by rw[<-j,<-A];kernel_rfl
 have a1:bL w C:=by rw[<-A];exact(FB _ w).alloc rl _
 have D:C.1[g]? =some (.map ([]:List MapEntry).toArray 0):=by rw[<-A,<-j];exact Df _ _
 obtain⟨W1,d3,M,U⟩:=fw D 2 (.agg #[I 1,I 0,.bool true,.bool false]) (by rfl);obtain⟨W2,c9,b8,N⟩:=fw M 3 (.agg #[I 2,I 0,.bool false,.bool false]) (by rfl);obtain⟨W3,d6,b4,a7⟩:=fw b8 6 (.agg #[I 3,I 0,.bool false,.bool false]) (by rfl);obtain⟨W4,d7,Z,b7⟩:=fw b4 7 (.agg #[I 3,I 0,.bool false,.bool false]) (by rfl);obtain⟨W5,d1,b5,G⟩:=fw Z 8 (.agg #[I 4,I 3,.bool false,.bool false]) (by rfl);obtain⟨W6,d5,a3,a2⟩:=fw b5 9 (.agg #[I 4,I 0,.bool false,.bool false]) (by rfl);obtain⟨W7,d4,b6,V⟩:=fw a3 10 (.agg #[I 4,I 0,.bool false,.bool false]) (by rfl);obtain⟨W8,c8,a8,E⟩:=fw b6 11 (.agg #[I 5,I 0,.bool false,.bool false]) (by rfl)
 obtain⟨W9,d0,Q,b9⟩:=fw a8 12 (.agg #[I 5,I 1,.bool false,.bool true]) (by rfl);obtain⟨J,d8,R,F⟩:=fw Q 13 (.agg #[I 6,I 0,.bool false,.bool false]) (by rfl);have H:=U.below (GB j) a1;have a6:=N.below (GB j) H;have K:=a7.below (GB j) a6;have S:=b7.below (GB j) K;have a5:=G.below (GB j) S;have X:=a2.below (GB j) a5;have a9:=V.below (GB j) X;have a4:=E.below (GB j) a9;have W:=b9.below (GB j) a4;have Y:=F.below (GB j) W;have HF:Hid (w.1.size<=g/\J.1[g]? =some (.map gA.toArray 10)/\bL w J):=O ⟨GB j,R,Y⟩;clear D M b8 b4 Z b5 a3 b6 a8 Q R a1 H a6 K S a5 X a9 a4 W Y U N a7 b7 G a2 V E b9 F j A;go_in;go_wp2;go_ret;exact⟨g,z,HF⟩
theorem vn(x y z:Int)(w:Fk):(Instr.typeAssert (.iface 95 (.agg #[I x,I y,I z])) 20 95 true).run prog w= .ok (.tuple #[.agg #[I x,I y,I z],.bool true]) w:=by kernel_rfl
theorem xm(w:Fk):Sem.run prog (eqGuard .eql 20 (.tmp 6) (.const .nilIface) .nilIface .nilIface) w= .ok () w:=by kernel_rfl
theorem wW(w:Fk):Sem.run prog (binOp .eql 20 .nilIface .nilIface) w= .ok (.bool true) w:=by kernel_rfl
theorem wy(x y z:Int)(w:Fk):Sem.run prog (eqGuard .eql 20 (.tmp 6) (.const .nilIface) (.iface 95 (.agg #[I x,I y,I z])) .nilIface) w= .ok () w:=by kernel_rfl
theorem uT(x y z:Int)(w:Fk):Sem.run prog (binOp .eql 20 (.iface 95 (.agg #[I x,I y,I z])) .nilIface) w= .ok (.bool false) w:=by kernel_rfl
theorem oI:(prog.info? 33).map (·.size)=some 1:=by kernel_rfl
structure qe (w w':Fk) (z2 z3 z4:Nat) (f:fT):Prop where
 l:ak w' z2 30 fm
 p:ak w' z3 32 [.int .i64 f.1.1,.int .i64 f.1.2]
 e:ak w' z4 33 [.int .i64 f.2]
 os:w'.os=w.os
 tape:w'.tape=w.tape
 output:w'.output=w.output
 size:w.1.size<=w'.1.size
 block:∀c,c<w.1.size->c≠z2->c≠z3->c≠z4->w'.1[c]? =w.1[c]?
theorem nt(J F E:Nat)(w:Fk):CallsD prog 35 #[Pt J,Pt F,Pt E] .returning w fun e j w'=>e= .returned (.tuple #[])/\j= .returning/\bL w w':=by refine callsD_of_wpS func35 z fun H cs D=>?_;simp only[ntmps35,Hh,FV,Gg,Ij,Ik,Hz,HA,HO,HI,Hw,GM];apply wpS_seq;apply wpS_region;simp[wpOpsS,go_sem,recoverD,D,Exit.thenS];apply wpS_of_wp;have g:=O (FB w.1.size w);have C:=xm;have G:=wW;go_wp2;simp[bodyPostS,results,f35];have A:=g.o;clear g C G;exact⟨.returning,by cases H;simp_all,z,A⟩
theorem iK(C A j:Nat)(f:fT)(b4:List PanicEntry)(w:Fk)(h2:ak w C 30 l2)(hl:l2.length=13)(h3:ak w A 32 [I p,I q])(h4:ak w j 33 [I r])(b5:C≠A/\C≠j/\A≠j):
  CallsD prog 35 #[Pt C,Pt A,Pt j] (.panicking ({dd f with recovered:=false}::b4)) w fun e u' w'=>e= .returned (.tuple #[])/\u'= .panicking ({dd f with recovered:=true}::b4)/\qe w w' C A j f:=by
 obtain⟨⟨fl,fc⟩,g⟩:=f;refine callsD_of_wpS func35 z fun c₀ cs hu=>?_;simp only[ntmps35,Hh,FV,Gg,Ij,Ik,Hz,HA,HO,HI,Hw,GM];apply wpS_seq;apply wpS_region;simp[wpOpsS,go_sem,recoverD,hu,Exit.thenS];refine wpS_of_wp ?_;have ht:=vn fl fc g;have e1:=wy fl fc g;have e2:=uT fl fc g;simp only[dd];have a1:=O h2;have a7:=O h3;have a6:=O h4;clear h2 h3 h4;go_wp2_with fail;have Z:Hid (ak (w.alloc (.cells #[I fl,I fc,I g] 95)) w.1.size 95 [I fl,I fc,I g]/\FM w.1.size w (w.alloc (.cells #[I fl,I fc,I g] 95))):=O ⟨ak.new _ _ _,(FB _ w).alloc (FL _) _⟩;generalize w.alloc (.cells #[I fl,I fc,I g] 95)=W0 at *;obtain⟨D,a0⟩:∃b,w.1.size=b:=⟨_,z⟩;have G:Hid (C<D/\A<D/\j<D/\w.1.size=D):=O (by rw[<-a0];exact⟨a1.o.lt,a7.o.lt,a6.o.lt,z⟩)
 rw[a0]at Z;rw[a0];have HB:Hid (FM D w W0):=O Z.o.2;have X:=O b5;have b7:=O hl;clear ht e1 e2 b5 hl a0;have b6:prog.follows .mixedOrders=true:=by kernel_rfl
 obtain⟨H,Y⟩:∃H,W0.drew=H:=⟨_,z⟩;have V:Hid (FM D w H):=O (by rw[<-Y];exact HB.o.trans (FB _ _).drew);have K:Hid (ak H D 95 [I fl,I fc,I g]):=O (by rw[<-Y];exact Z.o.1.drew);have a5:Hid (ak H C 30 l2/\ak H A 32 [I p,I q]/\ak H j 33 [I r]):=O ⟨a1.o.of (V.o.block _ G.o.1),a7.o.of (V.o.block _ G.o.2.1),a6.o.of (V.o.block _ G.o.2.2.1)⟩;clear Z HB a1 a7 a6;refine al [] (fun W=>ak W D 95 [I fl,I fc,I g]) b6 ?_;rw[Y];clear Y;refine tk 0 (some 12) K ?_;refine tk 1 (some 13) K ?_;refine aM 2 (some 14) (v:=?_) z z (by kernel_rfl) (fun _ _ _ h=>h) K.o (GJ ⟨by rfl,?_⟩) ?_;rotate_left
 .intro W1 M;have f0:=M.cell 0;have f1:=M.cell 1;simp only[FE,FH]at f0 f1;clear M;go_simp;first|with_reducible rfl|rw[am (by omega)]
 refine tk 3 (some 15) K ?_;refine nm ?_;refine aM 4 (some 16) (v:=?_) z z (by kernel_rfl) (fun _ _ _ h=>h) K.o (GJ ⟨by rfl,?_⟩) ?_;rotate_left
 .intro W1 M;have f2:=M.cell 2;simp only[FE,FH]at f2;clear M;go_simp;first|with_reducible rfl|rw[am (by omega)]
 refine nm ?_;refine oD 5 fun Q E=>?_;refine an bN (.tmp 0) (.tmp 12) z C fm _ z z a5.o.1 b7.o ⟨z,by decide⟩ ?_;intro W5 k5 c5;have R:=O (EQ k5 c5);clear k5 c5;have a8:=O (R.o.2.CV (by have:=G.o;omega) K.o);refine E _ _ (fun _=>a8.o) ?_;clear E Q;refine oD 6 fun Q E=>?_;refine an br (.tmp 1) (.tmp 14) z A [I fl,I fc] _ z z (R.o.2.CV (by have:=X.o;omega) a5.o.2.1) z (cl fl fc) ?_;intro W6 k6 c6;have U:=O (EQ k6 c6);clear k6 c6;have a9:=O (U.o.2.CV (by have:=G.o;omega) a8.o);refine E _ _ (fun _=>a9.o) ?_;clear E Q;refine oD 7 fun Q E=>?_;refine aA oI (.tmp 2) (.tmp 16) z j 0 33 (I g) _ z z z z (U.o.2.CV (by have:=X.o;omega) (R.o.2.CV (by have:=X.o;omega) a5.o.2.2)) (by simp) ?_;intro W7 k7 c7
 have K7:=O (EQ k7 c7);clear k7 c7;have b8:=O (K7.o.2.CV (by have:=G.o;omega) a9.o);refine E _ _ (fun _=>b8.o) ?_;clear E Q;try simp only[Gf]
 refine dn ?_;have HF:Hid (qe w W7 C A j ((fl,fc),g)):=O (by have hn:=X.o;have S:=R.o.2.ED;have J:=U.o.2.ED;have F:=K7.o.2.ED;have N:=V.o;exact⟨F.CV (by omega) (J.CV (by omega) R.o.1),F.CV (by omega) U.o.1,K7.o.1,F.os.trans (J.os.trans (S.os.trans N.os)),F.tape.trans (J.tape.trans (S.tape.trans N.tape)),F.output.trans (J.output.trans (S.output.trans N.output)),by rw[F.size,J.size,S.size];exact N.size,fun c hc a2 a3 a4=> (F.block c a4).trans ((J.block c a3).trans ((S.block c a2).trans (N.block c (by have:=G.o.2.2.2;omega))))⟩)
 go_wp2_with fail;simp[bodyPostS,results,f35];exact HF.o
theorem yP{tmps:Array Fr}(F:tmps.getD 2 Gm=Pt j)(K:tmps.getD 3 Gm=Pt g)(Q:tmps.getD 4 Gm=Pt n0)(b2:ak W j 30 l2)(A:l2.length=13)(b3:ak W g 32 [I p,I q])(N:ak W n0 33 [I r]):
  (results f14 tmps).run prog W= .ok (.tuple #[.agg l2.toArray,.agg #[I p,I q],I r]) W:=by
 let ⟨S,H,E⟩:=eI
 let ⟨D,U,V⟩:=gW
 have R:tmps[2]?.getD Gm=Pt j:=by rw[<-F];simp
 have G:tmps[3]?.getD Gm=Pt g:=by rw[<-K];simp
 have M:tmps[4]?.getD Gm=Pt n0:=by rw[<-Q];simp
 have J:=run_loadVar_mid (P:=prog) W j 0 30 l2 S b2.whole H E (by rw[A];exact bN);have w:=run_loadVar_mid (P:=prog) W g 0 32 _ D b3.whole U V br;have c4:=N.cell 0;simp only[FE]at c4;have C:(loadVar 33 (ad n0 0)).run prog W= .ok (I r) W:=by simp[go_sem,c4]
 simp[results,R,G,M,asAddr,J,w,C]
structure F3 (w W:Fk) (z2 z3 z4:Nat) (ps:List Fr) (p q r:Int):Prop where
 l:ak W z2 30 ps
 n:ps.length=13
 p:ak W z3 32 [.int .i64 p,.int .i64 q]
 e:ak W z4 33 [.int .i64 r]
 b:FM w.1.size w W
 lt:w.1.size<=z2/\w.1.size<=z3/\w.1.size<=z4/\z2≠z3/\z2≠z4/\z3≠z4
section
variable {w W W':Fk} {z2 z3 z4:Nat} {ps:List Fr} {p q r:Int}
theorem F3.below(H:F3 w W z2 z3 z4 ps p q r)(g:bL W W'):F3 w W' z2 z3 z4 ps p q r:=⟨H.l.below g,H.n,H.p.below g,H.e.below g,H.b.trans (g.mono H.b.size),H.lt⟩
theorem F3.Fp{B F:Nat}(H:F3 w W z2 z3 z4 ps p q r)(j:mN B F g W W')(A:z2<B/\z3<B/\z4<B)(D:z2<F/\z3<F/\z4<F)(E:z2<g/\z3<g/\z4<g)(G:w.1.size<=B):F3 w W' z2 z3 z4 ps p q r:=
 ⟨H.l.of (j.block _ A.1 (by omega) (by omega)),H.n,H.p.of (j.block _ A.2.1 (by omega) (by omega)),H.e.of (j.block _ A.2.2 (by omega) (by omega)),⟨j.os.trans H.b.os,j.tape.trans H.b.tape,j.output.trans H.b.output,FU H.b.size j.size,fun c C=> (j.block c (by omega) (by have:=H.lt;omega) (by have:=H.lt;omega)).trans (H.b.block c C)⟩,H.lt⟩
theorem F3.ch(H:F3 w W z2 z3 z4 ps p q r)(g:Ch c W W')(j:z2≠c/\z3≠c/\z4≠c)(A:w.1.size<=c):F3 w W' z2 z3 z4 ps p q r:=⟨g.CV j.1 H.l,H.n,g.CV j.2.1 H.p,g.CV j.2.2 H.e,g.below A H.b,H.lt⟩
theorem uU{P:Pg}(k:Nat)(g:9<=k):((eW P).getD k []).length<=n:=by rw[FD,GV (by simp[eW];omega)];exact FX _
def tT(z2 z3 z4:Nat):List Deferred:=[{target:= .fn (.func 35) #[.pointer (some ⟨z2,0,none⟩),.pointer (some ⟨z3,0,none⟩),.pointer (some ⟨z4,0,none⟩)],args:= #[]}]
theorem hn{f:fT}(H:F3 w W z2 z3 z4 ps p q r)(E:A.tmps.getD 2 Gm=Pt z2)(D:A.tmps.getD 3 Gm=Pt z3)(G:A.tmps.getD 4 Gm=Pt z4)(hd:A.defers=tT z2 z3 z4):
  bodyPostD prog f14 (lh w (fz,f.1,f.2)) (.panic [dd f]) A W:=by
 show Leaves prog f14 A.tmps (lh w (fz,f.1,f.2)) A.defers (.panicking [dd f]) W;rw[hd];apply leaves_cons (f:=35) (args:= #[Pt z2,Pt z3,Pt z4]) (by simp) (by simp[go_sem]);apply (iK z2 z3 z4 f [] W H.l H.n H.p H.e ⟨H.lt.2.2.2.1,H.lt.2.2.2.2.1,H.lt.2.2.2.2.2⟩).mono;rintro e J w' ⟨rfl,rfl,g⟩;have C:=yP E D G g.l z g.p g.e;have F:lh w (fz,f.1,f.2) (.returned (.tuple #[.agg fm.toArray,.agg #[I f.1.1,I f.1.2],I f.2])) w':=⟨⟨fm,z,eQ _ _⟩,⟨g.os.trans H.b.os,g.tape.trans H.b.tape,g.output.trans H.b.output,FU H.b.size g.size,fun c j=> (g.block c (FJ j H.b.size) (by have:=H.lt;omega) (by have:=H.lt;omega) (by have:=H.lt;omega)).trans (H.b.block c j)⟩⟩;simp only[settle];exact⟨_,C,F⟩
theorem rr{P:Pg}(H:F3 w W z2 z3 z4 ps p q r)(K:ei (w.1.size<=·) W P ps)(F:A.tmps.getD 2 Gm=Pt z2)(E:A.tmps.getD 3 Gm=Pt z3)(J:A.tmps.getD 4 Gm=Pt z4)(hd:A.defers=tT z2 z3 z4):
  bodyPostD prog f14 (lh w (P,(p,q),r)) .ret A W:=by
 show Leaves prog f14 A.tmps (lh w (P,(p,q),r)) A.defers .returning W;rw[hd];apply leaves_cons (f:=35) (args:= #[Pt z2,Pt z3,Pt z4]) (by simp) (by simp[go_sem]);apply (nt z2 z3 z4 W).mono;rintro e M w' ⟨rfl,rfl,j⟩;have g:=H.below j;have D:=yP F E J g.l g.n g.p g.e;have G:lh w (P,(p,q),r) (.returned (.tuple #[.agg ps.toArray,.agg #[I p,I q],I r])) w':=⟨⟨ps,z,K.keep fun b o u _ C=>ai j b o u C⟩,g.b⟩;simp only[settle];exact⟨_,D,G⟩
theorem oB{P:Pg}(H:F3 w W z2 z3 z4 ps p q r)(F:ei (w.1.size<=·) W P ps)(C:A.tmps.getD 2 Gm=Pt z2)(j:A.tmps.getD 3 Gm=Pt z3)(E:A.tmps.getD 4 Gm=Pt z4)(hd:A.defers=[]):
  bodyPostD prog f14 (lh w (P,(p,q),r)) .ret A W:=by
 show Leaves prog f14 A.tmps (lh w (P,(p,q),r)) A.defers .returning W;rw[hd];have g:=yP C j E H.l H.n H.p H.e;have D:lh w (P,(p,q),r) (.returned (.tuple #[.agg ps.toArray,.agg #[I p,I q],I r])) W:=⟨⟨ps,z,F⟩,H.b⟩;exact⟨_,g,D⟩
end
theorem dh{g:Type}{E:El g}{ty:TypeId}{sz B:Nat}{l:List g}(f:g->List Fr)(F:E.sz=sz)(h:aL (jX ty sz) B w v (l.map f))(M:∀x,x∈l->E.L (B<=·) w (f x) x):Ro E (B<=·) w v l:=by
 let ⟨a,cap,D,C,J⟩:=Ro.of h
 refine⟨a,cap,by simpa using D,by simpa using C,fun j x A=>?_⟩;let ⟨b,N,cs,Q,G,H,K⟩:=J j (f x) (by simp[A])
 refine⟨b,N,cs,Q,G,by rw[F];exact H,?_⟩;rw[K.1];exact M x (List.mem_of_getElem? A)
theorem yk{B F h:Nat}{P:Pg}{vs:List Fr}{D:PF}{C:List Fr}{G:List Th}(H:Bo w0 w B F g h n0 P vs D C G W)(Q:vs.getD 3 bV= .slice (some (ad n0 0)) n5 n6)(A:n5=G.length)(N:aF n5 n6):pu (B<=·) W {P with threads:=G} (vs.getD 0 bV) (vs.getD 1 bV) (vs.getD 2 bV) (vs.getD 3 bV) (vs.getD 4 bV) (vs.getD 5 bV) (vs.getD 6 bV) (vs.getD 7 bV) (vs.getD 8 bV):=by
 subst A;refine⟨dh (E:=lg 2) cI z (H.o 0 (by decide) (by decide)).1 fun x _=>z,dh (E:=lg 3) cI z (H.o 1 (by decide) (by decide)).1 fun x _=>z,dh (E:=lg 3) cI z (H.o 2 (by decide) (by decide)).1 fun x _=>z,?_,dh (E:=fl) cS z (H.o 4 (by decide) (by decide)).1 fun x _=>z,dh (E:=fl) cS z (H.o 5 (by decide) (by decide)).1 fun x _=>z,dh (E:=fl) cS z (H.o 6 (by decide) (by decide)).1 fun x _=>z,dh (E:=fl) cS z (H.o 7 (by decide) (by decide)).1 fun x _=>z,dh (E:=fl) cS z (H.o 8 (by decide) (by decide)).1 fun x _=>z⟩;refine⟨some (ad n0 0),n6,Q,N,fun j x R=>?_⟩;let ⟨cs,M,J⟩:=H.a j x R
 refine⟨n0,0,cs,z,H.lt.1.2.2.2,fun t u K=>?_,gh.CQ (fun c J=>J.1.1) M⟩;have S:cs.length=3:=(gh.cells M).1;have A:t<3:=by have:=(FW.1 K).1;omega
 show W.cell? (ad n0 (0+j*3+t))=some u;rw[H.t.cell,Nat.zero_add,J t A];exact K
structure Dk (l:List De) (i:Nat) (P:Pg) (L:List Nm) (ce:Int):Prop where
 ln:(P.vars.length<=i/\P.CW.length<=i/\P.CX.length<=i/\P.threads.length<=i)/\(P.nv.length<=i/\P.na.length<=i/\P.nm.length<=i/\P.nc.length<=i/\P.nh.length<=i)/\P.CT<=i/\P.conds<=i
 ce:0<=ce/\ce<=256
 th:∀t∈P.threads,t.body=[]/\t.locals=0
 c6:P.threads.length+mM (l.drop i)=mM l
 mn:∀x∈L,x.kind=6->0<P.threads.length
 i:i<=64
 ms:P.main=0/\P.stmts=0
theorem Dk.Fu{l:List De}{P:Pg}{L:List Nm}{ce:Int}(h:Dk l i P L ce):xN P 1000:=by obtain⟨⟨⟨a,b,c,d⟩,⟨e,f,g,j,k⟩,m,n⟩,-,-,-,-,w,-⟩:=h;refine⟨fun q=>?_,by omega,by omega⟩;rcases q with _|_|_|_|_|_|_|_|_|q;all_goals first| (simp only[eW,List.getD_cons_zero,List.getD_cons_succ,List.length_map];omega)|exact uU _ (by omega)
theorem Dk.step{l:List De}{P:Pg}{L:List Nm}{ce:Int}{d:De}(h:Dk l i P L ce)(_:i<l.length)(hd:l.drop i=d::l.drop (i+1))(A:1<=d.kind/\d.kind<=6)(w:gl P L ce i d= .ok (G,N,p0)):Dk l (i+1) G N p0:=by
 let ⟨⟨⟨a,b,c,e⟩,⟨f,g,j,k,m⟩,n,p⟩,M,H,D,K,V,J⟩:=h
 rw[hd,mM]at D;cases F:ex L d.name with
 |some x=>rw[nT F]at w;cases w
 |none=>
  have S:d.kind=1∨d.kind=2∨d.kind=3∨d.kind=4∨d.kind=5∨d.kind=6:=by omega
  rcases S with A|A|A|A|A|A
  .rw[sT F A]at w;split at w
   .cases w
   cases w;rw[A]at D;refine⟨by simp;omega,M,H,by simpa using D,fun x C=>?_,by omega,J⟩;simp only[GG,Hq]at C;rcases C with C|rfl
   .exact K x C
   .intro E;simp[A]at E
  .by_cases Q:d.num<1∨256<d.num∨256<ce+d.num
   .rw[mz F A Q]at w;cases w
   rw[tS F A Q]at w;split at w
   .cases w
   cases w;rw[A]at D;refine⟨by simp;omega,by omega,H,by simpa using D,fun x C=>?_,by omega,J⟩;simp only[GG,Hq]at C;rcases C with C|rfl
   .exact K x C
   .intro E;simp[A]at E
  .rw[ux F A]at w;split at w
   .cases w
   cases w;rw[A]at D;refine⟨by simp;omega,M,H,by simpa using D,fun x C=>?_,by omega,J⟩;simp only[GG,Hq]at C;rcases C with C|rfl
   .exact K x C
   .intro E;simp[A]at E
  .rw[ub F A]at w;split at w
   .cases w
   cases w;rw[A]at D;refine⟨by simp;omega,M,H,by simpa using D,fun x C=>?_,by omega,J⟩;simp only[GG,Hq]at C;rcases C with C|rfl
   .exact K x C
   .intro E;simp[A]at E
  .by_cases Q:d.num<1∨16<d.num
   .rw[qu F A Q]at w;cases w
   rw[so F A Q]at w;split at w
   .cases w
   cases w;rw[A]at D;refine⟨by simp;omega,M,H,by simpa using D,fun x C=>?_,by omega,J⟩;simp only[GG,Hq]at C;rcases C with C|rfl
   .exact K x C
   .intro E;simp[A]at E
  .rw[uz F A]at w;split at w
   .cases w
   cases w;rw[A]at D;refine⟨by simp;omega,M,fun t R=>?_,by simp at D ⊢;omega,fun x _ _=>by simp,by omega,J⟩;simp only[GG,Hq]at R;rcases R with R|rfl
   .exact H t R
   .exact⟨z,z⟩
theorem zy:∃i z,prog.info? 33=some i/\i.zero=some z/\z.cells=([I 0]:List Fr).toArray:=fH (by kernel_rfl)
theorem nR{nm:ByteArray->Bool}{d:De}(h:fI nm d=true):(1<=d.kind/\d.kind<=6)/\(d.kind=1->-2147483648<=d.num/\d.num<=2147483647)/\St.DO d.body:=by
 unfold fI at h;simp only[Bool.and_eq_true]at h;obtain⟨-,g,j⟩:=h;have A:d.body.length=0->St.DO d.body:=fun e=>by rw[List.length_eq_zero_iff.1 e];unfold St.DO;trivial
 by_cases w:d.kind=1
 .rw[aD w]at j;simp at g j;exact⟨by omega,fun _=>by omega,A (by rcases g with g|g;omega;simp[g])⟩
 rw[am w]at j;by_cases D:d.kind=2∨d.kind=5
 .simp at g;exact⟨by omega,fun e=>absurd e w,A (by rcases g with g|g;omega;simp[g])⟩
 rw[am D]at j;by_cases k3:d.kind=3∨d.kind=4
 .simp at g;exact⟨by omega,fun e=>absurd e w,A (by rcases g with g|g;omega;simp[g])⟩
 rw[am k3]at j;by_cases C:d.kind=6
 .rw[aD C,Bool.and_eq_true]at j;exact⟨by omega,fun e=>absurd e w,gK d.body j.2⟩
 .rw[am C]at j;cases j
theorem uF(P:Pg){P0:Pg}{B:Nat}{vs:List Fr}(h:Gs B w vs (eW P0)):(fb P vs).length=13/\∀v∈fb P vs,v.oneCell'=true:=by
 have j:∀k,(vs.getD k bV).oneCell'=true:=fun k=>by
  by_cases A:k<9
  .obtain⟨a,cap,C,-⟩:=(h.gr k A).form;rw[C];rfl
  .rw[FD,GV (by rw[h.len.1];omega)];rfl
 refine⟨z,fun v g=>?_⟩;simp only[fb,FQ,FO,or_false]at g;rcases g with rfl|rfl|rfl|rfl|rfl|rfl|rfl|rfl|rfl|rfl|rfl|rfl|rfl;all_goals first|rfl|exact j _
theorem qW(P:Pg)(L:List Nm)(ce:Int)(i:Nat)(d:De)(r:List De):jr P L ce i (d::r)=(match gl P L ce i d with| .error e=> .error e| .ok q=>jr q.1 q.2.1 q.2.2 (i+1) r):=by
 rw[jr];cases gl P L ce i d with
 |error e=>rfl
 |ok q=>rfl
theorem qF{nmf:ByteArray->Bool}{l:List De}{cap F h B:Nat}{P:Pg}{vs:List Fr}{L:List Nm}{ce:Int}{R:Pg× (Int×Int)×Int}{d9 e7 e8 f4 f7:Fr}(HN:Hid (l.length=n7))(HZ:Hid (w.1.size=n0/\n0+1=n5/\n5+1=n6))(f5:Hid (F<B/\g<B/\h<B/\n6<g/\g<h/\h<F/\w.1.size<=g))
  (H:Hid (F3 w W n0 n5 n6 fm 0 0 0/\Fi W F g h (fb P vs) ⟨L,ce,0,0,0⟩/\Gs B W vs (eW P)/\B<=W.1.size))(U:Hid (Dk l n7 P L ce))(e4:Hid (co nmf l=true))(f6:Hid (cQ (fun _=>True) w a l))(d6:aF n7 cap)
  (HR:Hid (R=(match ex L fh with|none=> (fz,(0,0),133)|some x=>if x.kind≠6 then (fz,(0,0),133) else match gS L 0 l with| .error e=> (fz,e.1,e.2)| .ok (bs,n)=> ({P with main:=x.slot,threads:=df P.threads bs,stmts:=n},(0,0),0)))):
  Code.wp prog (Jp 5 (f14.body.getD .skip)) (bodyPostD prog f14 (lh w R)) ⟨#[.slice a n7 cap,u5,Pt n0,Pt n5,Pt n6,u6,Pt F,u7,u8,u9,x0,x1,x2,x3,x4,v5,v6,v7,v8,v9,u0,u1,u2,u3,u4,vK,vL,vM,vN,vP,vQ,vR,vS,vT,vU,vV,vW,vX,vY,vZ,d9,e7,e8,f4,f7,x5,x6,x7,x8,x9,y0,y1,y2,y3,y4,y5,y6,y7,y8,y9,vA,vB,vC,vD,vE,vF,vG,vH,vI,vJ,v4,v0,v2,v3,v1],tT n0 n5 n6⟩ W:=by
 obtain⟨i4,g1,f8,d7,f2⟩:=eR;obtain⟨e0,f3,d8⟩:=eI;obtain⟨r,hr⟩:∃r,ex L fh=r:=⟨_,z⟩;have A:=HR.o;rw[hr]at A;have M:=O A;have b8:=O hr;have e1:=O d6;clear A hr HR d6;have b6:=jG H.o.2.1.m ⟨#[109,97,105,110]⟩;rw[mr,show ex L ⟨#[109,97,105,110]⟩=r from b8.o]at b6;have c13:=H.o.2.1.c13;obtain⟨bM,a8⟩:∃b,W.1.size=b:=⟨_,z⟩;conv in (Jp _ _)=>whnf
 refine wk fun KK b9=>?_;go_wp2_with (first
  | ((with_reducible refine cp 9 (.alloc 104) ?_);refine ag f8 d7 f2 z z bM a8 ?_;intro W1 k1 b1 e6;have K1:=O k1;have B1:=O b1;clear k1 b1)
  | ((with_reducible refine cY (.store 104 _ _) ?_);refine af bY z (.tmp 9) (.tmp 41) z bM [I (xH r),I (xM r)] _ z z K1.o z ⟨z,by simp[Value.oneCell']⟩ ?_;intro W2 k2 c2;have K2:=O k2;have V:=O (c2.below (by rw[a8];exact FL _) B1.o);clear k2 c2 K1 B1 e6)
  |fail)
 refine b9.o _ _ ?_;clear b9 KK b6 c13 a8;have D:=O (EQ (H.o.1.below V.o) (EQ (H.o.2.1.up V.o) (EQ (H.o.2.2.1.below V.o) (FU H.o.2.2.2 V.o.size))));clear H V;have m0:W2.cell? ⟨bM,0,none⟩=some (I (xH r)):=K2.o.cell 0;have m1:W2.cell? ⟨bM,1,none⟩=some (I (xM r)):=K2.o.cell 1;rcases r with _|⟨xt,xk,xs⟩
 .go_wp2_with fail;rw[M.o];exact hn (f:=((0,0),133)) D.o.1 z z z z
 simp only[xH,xM]at m0 m1;by_cases hk:xk=6;rotate_left
 .have g2:¬ (xk:Int)=6:=by omega
  have A:=M.o;simp only[ne_eq,hk,not_false_iff,if_true]at A;have a1:=O A;clear A M;go_wp2_with fail;rw[a1.o];exact hn (f:=((0,0),133)) D.o.1 z z z z
 subst hk;have A:=M.o;simp only[ne_eq,not_true,if_false]at A;have a1:=O A;have e2:Hid (∀n:Nat,(fb {P with main:=xs,stmts:=n} vs).length=13/\∀v∈fb {P with main:=xs,stmts:=n} vs,v.oneCell'=true):=O fun n=>uF _ D.o.2.2.1;have h0:0<P.threads.length:=U.o.mn _ (List.mem_of_find?_eq_some b8.o) z;have f0:=O h0;clear A M h0;go_wp2_with (first
  | ((with_reducible refine cY (.store 3 (.tmp 58) _) ?_);refine az dx z (.tmp 58) (.tmp 55) z F 6 101 (I xs) _ z z z z D.o.2.1.f (by simp[fb,eD]) ?_;intro K k3 c3;have J:=O (EQ k3 c3);clear k3 c3)
  |fail)
 have C:=O f5.o;have G:=O HZ.o;have d3:=D.o.2.1.fg;have b4:=D.o.2.1.fh;have d5:Hid (Fi K F g h (fb {P with main:=xs} vs) ⟨L,ce,0,0,0⟩):=O (D.o.2.1.pc z J.o.1 (J.o.2.FB (fun e=>d3 e.symm)) (J.o.2.FB (fun e=>b4 e.symm)));have a0:Hid (Gs B K vs (eW {P with main:=xs})):=O (D.o.2.2.1.ch J.o.2 (.inl C.o.1));have H3:=O (D.o.1.ch J.o.2 (by have:=C.o;have:=G.o;omega) (by have:=C.o;omega));have g3:Hid (B<=K.1.size):=O (by rw[J.o.2.size];exact D.o.2.2.2);clear D J m0 m1 K2 d3 b4;obtain⟨gt,g4,C0,a4,b5,d4,a3,a6,d0⟩:=kc (a0.o.gr 3 (by decide)) (by simpa [eW]using f0.o) (by decide);have d2:((eW {P with main:=xs}).getD 3 []).length=P.threads.length:=by simp[eW]
 rw[d2]at a4 a3 a6;have a5:=O a4;have f1:=O a3;have S:Hid (Bo w K B F g h gt {P with main:=xs} vs ⟨L,ce,0,0,0⟩ C0 P.threads K):=O ⟨mN.refl _ _ _ _,d5.o,d4,fun j x hj=>by
  obtain⟨cs,h1,h2⟩:=d0 j (cT x) (by simp[eW,hj]);have Z:=(U.o.th x (List.mem_of_getElem? hj)).1;refine⟨cs,⟨none,0,?_,?_,?_⟩,h2⟩
  .rw[h1.1,Z];rfl
  .rw[Z];exact⟨FL _,by decide⟩
  .rw[Z];unfold aE;trivial,a6,fun k e3 e9=>⟨a0.o.gr k e3,a0.o.ap 3 k gt (fun e=>e9 e.symm) (by rw[a5.o];rfl)⟩,H3.o.b,⟨C.o.1,C.o.2.1,C.o.2.2.1,b5⟩,by have:=C.o;omega,by have:=C.o;omega⟩
 clear a4 a3 b5 d4 a6 d0 d2 a0 d5;have b7:l.drop n7=[]:=by rw[<-HN.o];exact Hn
 have h6:=U.o.c6;rw[b7]at h6;simp only[mM,Nat.add_zero]at h6;have a2:=sB l a cap (by rw[HN.o];exact e1.o) f6.o S.o a5.o z ⟨z,FX _⟩ (fun d hd=> (nR (GC.1 e4.o d hd)).2.2) ⟨h6,by have h1:=U.o.ln.1.2.2.2;have h2:=U.o.i;omega⟩;rw[HN.o]at a2;refine a2.mono ?_;clear a2 b7 h6;rintro e W4 ⟨a9,hm⟩;have H4:=O (H3.o.Fp a9 (by have:=C.o;have:=G.o;omega) (by have:=C.o;have:=G.o;omega) (by have:=C.o;have:=G.o;omega) (by have:=C.o;omega));clear a9 H3 S;obtain⟨rb,d1⟩:∃r,gS L 0 l=r:=⟨_,z⟩;have A:=a1.o;simp only at hm;rw[d1]at hm A;have c9:=O A;clear A a1 d1;rcases rb with er|⟨bs,n⟩
 .obtain rfl:=hm;have A:=c9.o;simp only at A;rw[A];exact hn H4.o z z z z
 obtain⟨rfl,mo,C4,a7⟩:=hm;have S:=O a7;have c16:=a7.f.c16;clear a7;go_wp2_with (first
  | ((with_reducible refine cY (.store 3 (.tmp 69) _) ?_);refine az dx z (.tmp 69) (.tmp 66) z F 7 101 (I n) _ z z z z S.o.f.f (by simp[fb,eD]) ?_;intro W5 k5 c5;have K5:=O (EQ k5 c5);have e5:Hid (W5.rangeAt F 0 (fb {P with main:=xs,stmts:=n} vs)):=O (ak.range (pre:=[]) (mid:=fb {P with main:=xs,stmts:=n} vs) (post:=eD g h ⟨L,ce,n,0,mo⟩) k5 z);have Q:=O (H4.o.ch c5 (by have:=C.o;have:=G.o;omega) (by have:=C.o;omega));clear k5 c5)
  | ((with_reducible refine cp 73 (.load 30 _) ?_);refine Gn z 30 (.tmp 72) z F 0 z (fb {P with main:=xs,stmts:=n} vs) e0 e5.o f3 d8 bN ?_)
  | ((with_reducible refine cY (.store 30 (.tmp 2) _) ?_);refine af bN z (.tmp 2) (.tmp 73) z n0 (fb {P with main:=xs,stmts:=n} vs) _ z z Q.o.l z (e2.o n) ?_;intro W6 k6 c6;have Y:=O (EQ k6 c6);clear k6 c6)
  | ((with_reducible refine cY (.store 32 (.tmp 3) _) ?_);refine af br z (.tmp 3) (.tmp 74) z n5 [I 0,I 0] _ z z (Y.o.2.CV (by have:=G.o;omega) Q.o.p) z (cl 0 0) ?_;intro W7 k7 c7;have N:=O (EQ k7 c7);clear k7 c7)
  | ((with_reducible refine cY (.store 33 (.tmp 4) _) ?_);refine az oI z (.tmp 4) (.const (I 0)) z n6 0 33 (I 0) _ z z z z (N.o.2.CV (by have:=G.o;omega) (Y.o.2.CV (by have:=G.o;omega) Q.o.e)) (by simp) ?_;intro W8 k8 c8;have X:=O (EQ k8 c8);clear k8 c8)
  |fail)
 have A:=c9.o;rw[A];have hz:=G.o;have hl:=C.o;have H8:F3 w W8 n0 n5 n6 (fb {P with main:=xs,stmts:=n} vs) 0 0 0:=⟨X.o.2.CV (by omega) (N.o.2.CV (by omega) Y.o.1),z,X.o.2.CV (by omega) N.o.1,X.o.1,X.o.2.below (by omega) (N.o.2.below (by omega) (Y.o.2.below (by omega) Q.o.b)),Q.o.lt⟩;have hp:=yk S a5 (by rw[fP]) f1;have E:=(hp.keep (w':=W8) fun b o u Z hu=>by have f9:B<=b:=Z;rw[X.o.2.cell (by omega),N.o.2.cell (by omega),Y.o.2.cell (by omega),K5.o.2.cell (by omega)];exact hu).CQ (ok':=fun c=>w.1.size<=c) fun c hc=>by have g5:B<=c:=hc;omega
 exact rr H8 ⟨_,_,_,_,_,_,_,_,_,z,⟨E.vars,E.CW,E.CX,E.threads,E.nv,E.na,E.nm,E.nc,E.nh⟩⟩ z z z z
theorem lV{nmf:ByteArray->Bool}(l:List De)(a:Option Addr)(cap:Nat)(w:Fk)(d4:aF l.length cap)(d9:cQ (fun _=>True) w a l)(b5:∀W,FM w.1.size w W->Jq prog 34 #[.slice a l.length cap] W fun e w'=>e= .returned (I (if co nmf l=true then 0 else 2))/\FM W.1.size W w'):
  Jq prog 14 #[.slice a l.length cap] w (lh w (if co nmf l=true then cW l else (fz,(0,0),2))):=by
 have j7:=uo;let ⟨k8,l3,i5,i1,i3⟩:=hJ
 let ⟨k0,j2,f5,g1,g8⟩:=hG
 let ⟨j6,l2,g3,h6,g7⟩:=zy
 let ⟨i9,j4,f7,g4,g6⟩:=qa
 let ⟨h0,e5,e3⟩:=lb
 let ⟨j1,j9,j0⟩:=eI
 let ⟨i4,y4,l4,a7,j8⟩:=eR
 obtain⟨E,hN⟩:=eX l.length;rw[hN]at d4 ⊢;simp only[hN]at b5;have Q:=O hN;have b9:=O fun _:True=>d4;have f3:=O d9;have d7:=O b5;obtain⟨R,j⟩:∃R,(if co nmf l=true then cW l else (fz,(0,0),2))=R:=⟨_,z⟩;rw[j];have HR:=O j;clear hN d4 d9 b5 j;obtain⟨C,h2⟩:=eX w.1.size;go_enter_defers func14,ntmps14;refine wk fun M A=>?_;go_wp2_with (first
  | (with_reducible refine cp 2 (.alloc 30) ?_;refine ag i5 i1 i3 z z C h2 ?_;intro W1 k1 b1 e7;have K1:=O k1;have B1:=O b1;clear k1 b1)
  | (with_reducible refine cp 3 (.alloc 32) ?_;refine ag f5 g1 g8 z z (C+1) e7 ?_;intro W2 k2 b2 s2;have K2:=O k2;have B2:=O b2;clear k2 b2)
  | (with_reducible refine cp 4 (.alloc 33) ?_;refine ag g3 h6 g7 z z (C+1+1) s2 ?_;intro W3 k3 b3 s3;have K3:=O k3;have B3:=O b3;clear k3 b3)
 )
 apply A;clear A M;obtain⟨X,d1⟩:=eX (C+1);rw[d1]at K2 K3 s2 s3 ⊢;obtain⟨U,a7⟩:=eX (X+1);rw[a7]at K3 s3 ⊢;have G:Hid (w.1.size=C/\C+1=X/\X+1=U):=O ⟨h2,d1,a7⟩;have b6:=B1.o.trans (B2.o.mono B1.size);have e9:=b6.trans (B3.o.mono b6.size);have H3:Hid (F3 w W3 C X U fm 0 0 0):=O ⟨(K1.o.below B2.o).below B3.o,z,K2.o.below B3.o,K3.o,e9,by omega⟩;clear K1 K2 K3 B1 B2 B3 e7 s2 s3 b6 e9 h2 d1 a7;refine wk fun M A=>?_;go_wp2_with fail;refine(d7.o W3 H3.o.b).mono ?_;rintro e H ⟨rfl,hb⟩;have N:=O (H3.o.below hb);clear hb H3 d7;by_cases a0:co nmf l=true;rotate_left
 .have j:=HR.o;rw[am a0]at j;have a5:=O j.symm;rw[am a0];clear HR j;go_wp2_with (first
   | ((with_reducible refine cY (.store 30 (.tmp 2) _) ?_);refine af bN z (.tmp 2) (.tmp 15) z C fm _ z z N.o.l z ⟨z,by decide⟩ ?_;intro K k5 c5;have K5:=O (EQ k5 c5);clear k5 c5)
   | ((with_reducible refine cY (.store 32 (.tmp 3) _) ?_);refine af br z (.tmp 3) (.tmp 16) z X [I 0,I 0] _ z z (K5.o.2.CV (by have:=G.o;omega) N.o.p) z (cl 0 0) ?_;intro W6 k6 c6;have K6:=O (EQ k6 c6);clear k6 c6)
   | ((with_reducible refine cY (.store 33 (.tmp 4) _) ?_);refine az oI z (.tmp 4) (.tmp 17) z U 0 33 (I 2) _ z z z z (K6.o.2.CV (by have:=G.o;omega) (K5.o.2.CV (by have:=G.o;omega) N.o.e)) (by simp) ?_;intro V k7 c7;have S:=O (EQ k7 c7);clear k7 c7)
   |fail)
  rw[a5.o];have hz:=G.o;have H7:F3 w V C X U fm 0 0 2:=⟨S.o.2.CV (by omega) (K6.o.2.CV (by omega) K5.o.1),z,S.o.2.CV (by omega) K6.o.1,S.o.1,S.o.2.below (by omega) (K6.o.2.below (by omega) (K5.o.2.below (by omega) N.o.b)),N.o.lt⟩;exact oB H7 (eQ _ _) z z z z
 have j:=HR.o;rw[aD a0]at j;have a5:=O j.symm;rw[aD a0];have e6:=O a0;clear HR j a0;go_wp2;apply A;clear A M;refine wk fun M A=>?_;go_wp2;apply A;clear A M;obtain⟨g,hg⟩:=eX H.1.size;obtain⟨K,a8⟩:=eX (H.alloc (.map #[] 0));have f8:(Instr.makeMap 97 none).run prog H= .ok (.map (some g)) K:=by rw[<-hg,<-a8];kernel_rfl
 have D:Hid (FM H.1.size H K/\oV K g []/\g<K.1.size):=O (by
  have h1:K.1[g]? =some (.map #[] 0):=by rw[<-a8,<-hg];exact Df _ _
  exact⟨by rw[<-a8];exact(FB _ H).alloc (FL _) _,⟨[],0,h1,z⟩,(FT.1 h1).1⟩)
 have HG:Hid (H.1.size=g):=O hg;clear hg a8;refine wk fun M A=>?_;go_wp2_with fail;apply (pz K).mono;rintro e W6 ⟨h,rfl,hh,c9,c8⟩;have H6:=O ((N.below D.1).below c8);have Y:Hid (oV W6 g []/\W6.1[h]? =some (.map gA.toArray 10)/\h<W6.1.size/\g<h/\H.1.size<=g):=O ⟨D.2.1.of (c8.block _ D.2.2),c9,(FT.1 c9).1,by have:=D.2.2;omega,GB HG⟩;have f2:Hid (U<g):=O (by have h1:=N.e.lt;have h3:=HG.o;omega);clear f8 D HG c9 c8 hh N;obtain⟨F,hF⟩:=eX W6.1.size;go_wp2_with (first
  | (with_reducible refine cp 22 (.box 101 _) ?_;refine aJ z (.tmp 21) z (fb fz (Ie 9 bV)++eD g h ⟨[],0,0,0,0⟩) z F hF ?_;intro V k7 b7 s7;have S:=O k7;have B7:=O b7;clear k7 b7)
 )
 refine A.o _ _ ?_;clear A M;obtain⟨B,hB⟩:∃B,V.1.size=B:=⟨_,z⟩;have a4:Hid (F<B/\g<B/\h<B/\U<g/\g<h/\h<F/\w.1.size<=g):=O (by have h1:=Y.o;have h3:=f2.o;have h4:=G.o;have h5:=B7.o.size;omega)
 have e0:Hid (Fi V F g h (fb fz (Ie 9 bV)) ⟨[],0,0,0,0⟩):=O ⟨z,S.o,Y.o.1.of (B7.o.block _ (by have:=Y.o;omega)),(B7.o.block _ Y.o.2.2.1).trans Y.o.2.1,by have:=a4.o;omega,by have:=a4.o;omega,by have:=a4.o;omega⟩;have H7:=O (H6.o.below B7.o);have e4:Hid (Gs B V (Ie 9 bV) (eW fz)):=O (Gs.nil B V);have f0:Hid (B<=V.1.size):=O (GB hB.symm);clear S B7 s7 hF Y f2 H6 hB;refine wk fun M A=>?_;go_wp2_with fail;go_loopg [25] E (fun x iv wr=>∃ (i:Nat) (P:Pg) (vs:List Fr) (L:List Nm) (ce:Int),i<=E/\x=E-i/\iv=I i/\Hid (F3 w wr C X U fm 0 0 0/\Fi wr F g h (fb P vs) ⟨L,ce,0,0,0⟩/\Gs B wr vs (eW P)/\B<=wr.1.size)/\Hid (Dk l i P L ce)/\Hid (jr fz [] 0 0 l=jr P L ce i (l.drop i)))
 case atStart=>exact⟨0,fz,_,[],0,FX _,z,z,O ⟨H7.o,e0.o,e4.o,f0.o⟩,O ⟨by decide,by decide,(fun t ht=>by cases ht),(by rw[List.drop_zero];simp[fz]),(fun x hx=>by cases hx),by decide,z,z⟩,O (by simp)⟩
 case round=>
  clear H7 e0 e4 f0;obtain⟨i,P,vs,L,ce,hi,rfl,rfl,Z,HD,b8⟩:=hrel;by_cases a3:i<E
  .have k9:(i:Int)< (E:Int):=by omega
   have j5:(0:Int)<=(i:Int):=by omega
   have g5:Hid (wrap64 ((i:Int)+1)=((i+1:Nat):Int)):=O (by have h1:=(b9.o trivial).1;have h2:=(b9.o trivial).2;have:=Gi ((i:Int)+1) (by omega);rw[this];omega)
   obtain⟨b2,d6,dc,rfl,-,d5,h7⟩:=f3.o i (by rw[Q.o];exact a3);have d8:l.getD i default∈l:=by rw[FD,FC (by rw[Q.o];exact a3)];exact Gy _
   have d3:l.drop i=l.getD i default::l.drop (i+1):=by rw[List.drop_eq_getElem_cons (by rw[Q.o];exact a3),FD,FC (by rw[Q.o];exact a3)];rfl
   have J:=b8.o;rw[d3,qW]at J;have f4:=nR (GC.1 e6.o _ d8);generalize l.getD i default=d at *;obtain⟨ba,a2,rfl,-,-⟩:=h7;obtain⟨BN,e1⟩:∃n,d.body.length=n:=⟨_,z⟩;rw[e1]at d5;have g2:Hid (wr.rangeAt b2 (d6+i*6) (dg d (.slice ba BN a2))):=O fun t v hv=>ai Z.o.1.b _ _ _ (by simpa using d5 t v hv);have i2:=O d3;have d0:=O f4;have f1:=O J;obtain⟨bA,e2⟩:∃b,wr.1.size=b:=⟨_,z⟩;have f6:Hid (wr.1.size=bA):=O e2;clear J f4 d5 d3 d8 b8 e1;go_wp2_with (first
    | ((with_reducible refine cp 29 (.load 46 _) ?_);refine Gn z 46 (.tmp 28) z b2 (d6+i*6) z (dg d (.slice ba BN a2)) h0 g2.o e5 e3 eH ?_)
    | ((with_reducible refine cp 8 (.alloc 46) ?_);refine ag f7 g4 g6 z z bA e2 ?_;intro H k4 b4 s4;have K4:=O k4;have B4:=O b4;clear k4 b4)
    | ((with_reducible refine cY (.store 46 (.tmp 8) _) ?_);refine af eH z (.tmp 8) (.tmp 29) z bA (dg d (.slice ba BN a2)) _ z z K4.o z (iu d z) ?_;intro K k5 c5;have D:=O (c5.below (by rw[f6.o];exact FL _) B4.o);have f9:=O k5;clear k5 c5 K4 B4 s4)
    | ((with_reducible refine cp 32 (.load 46 _) ?_);refine ac e5 e3 eH z (.tmp 8) z bA (dg d (.slice ba BN a2)) z f9 z ?_)
    |fail)
   have a6:=O (EQ (Z.o.1.below D.o) (EQ (Z.o.2.1.up D.o) (EQ (Z.o.2.2.1.below D.o) (FU Z.o.2.2.2 D.o.size))));have a1:=a4.o;refine(ut d (.slice ba BN a2) i a6.2.1 a6.2.2.1 ⟨a1.1,a1.2.1,a1.2.2.1,a6.2.2.2⟩ z d0.1 d0.2.1 HD.ce (by have:=HD.i;omega) HD.Fu).mono ?_;rintro e W8 ⟨d2,hm⟩;have a9:=O a1;clear a1;have H8:=O (a6.1.Fp d2 (by have:=a9.o;have:=G.o;omega) (by have:=a9.o;have:=G.o;omega) (by have:=a9.o;have:=G.o;omega) (by have:=a9.o;omega));have i6:=O (FU a6.2.2.2 d2.size);obtain⟨r,hr⟩:=eX (gl P L ce i d);have J:=f1.o;rw[hr]at hm J;rcases r with er|⟨P',L',i8⟩
   .obtain rfl:=hm;have j:=a5.o;unfold cW at j;rw[J]at j;rw[j];exact hn H8 z z z z
   obtain⟨rfl,i0,hf,e8⟩:=hm;have h8:=O (EQ H8 (EQ hf (EQ e8 i6)));have i7:=O (HD.step (by rw[Q.o];exact a3) i2 d0.1 hr);have h9:=O J;clear d2 hf e8 hr J f1;go_wp2;go_roundg (E- (i+1));case measure=>omega
   case rel=>exact⟨i+1,P',i0,L',i8,by omega,z,congrArg (Gr .i64) g5,h8,i7,h9⟩
  .obtain rfl:i=E:=by omega
   have j3:¬ (i:Int)< (i:Int):=by omega
   have hQ:=b8.o;rw[<-Q.o,Hn,jr]at hQ;have j:=a5.o;unfold cW at j;rw[hQ]at j;have g9:=O j;clear hQ j a5;go_wp2;apply A;exact qF Q G a4 Z HD e6 f3 (b9 trivial) g9
theorem qU(nmf:ByteArray->Bool)(s:ByteArray)(w:Fk)(hE:gc w)(hO:hR w)(d0:∀ (W:Fk) (a:Option Addr) (cap:Nat),bL w W->aF (bh s).1.length cap->cQ (fun _=>True) W a (bh s).1->Jq prog 34 #[.slice a (bh s).1.length cap] W fun e w'=>e= .returned (I (if co nmf (bh s).1=true then 0 else 2))/\bL W w'):
  Jq prog 10 #[.string s] w (lh w (eC (fun l=>if co nmf l=true then cW l else (fz,(0,0),2)) s)):=by
 obtain⟨i3,z3,f8,f4,f6⟩:=hJ;obtain⟨i2,z2,d8,d5,e1⟩:=hG;obtain⟨h0,e4,d1⟩:=eI;obtain⟨g7,e6,d6⟩:=gW;have g4:prog.follows .mixedOrders=true:=by kernel_rfl
 obtain⟨R,g⟩:=eX (eC (fun l=>if co nmf l=true then cW l else (fz,(0,0),2)) s);rw[g];unfold eC at g;have N:=O g;have c9:=O d0;have b8:=O (EQ hE hO);clear g d0 hE hO;go_in;refine wk fun KK U=>?_;go_wp2_with (first
  | (with_reducible refine cp 2 (.alloc 30) ?_;refine ag f8 f4 f6 z z w.1.size z ?_;intro W1 k1 b1 d9;have K1:=O k1;have B1:=O b1;clear k1 b1)
  | (with_reducible refine cp 3 (.alloc 32) ?_;refine ag d8 d5 e1 z z (w.1.size+1) d9 ?_;intro W2 k2 b2 s2;have K2:=O k2;have B2:=O b2;clear k2 b2)
 )
 refine U.o _ _ ?_;clear U KK;have a1:=B1.o.trans (B2.o.mono B1.o.size);have hp:=iX s W2 (b8.o.1.below a1 (by have:=b8.o.1.1;omega)) (b8.o.2.below a1);unfold sE at hp;obtain⟨b5,hZ⟩:=eX (bh s);rw[hZ]at hp N c9;obtain⟨l,⟨G,pc⟩,er⟩:=b5;have b9:=O a1;have e2:=O (K1.o.below B2.o);have d7:=O K2.o;clear a1 hZ K1 K2 B1 B2;refine wk fun KK U=>?_;go_wp2_with fail;refine hp.mono ?_;clear hp;rintro e D ⟨j,a,cap,rfl,e8,e7⟩;have f0:=j.size;have d4:Hid (w.1.size+2<=D.1.size):=O (by omega);have a5:=O (e2.o.below j);have a4:=O (d7.o.below j);have d3:=O (b9.o.trans (j.mono b9.o.size));have a9:=O (cQ.CQ (ok':=fun _=>True) (fun _ _=>trivial) e7.Fa);have a7:=O fun _:True=>e8;clear j e2 d7 b9 e7 e8
 obtain⟨a3,hN⟩:∃a3,l.length=a3:=⟨_,z⟩;have HN:Hid (l.length=a3):=O hN;try simp only at a7
 try simp only at a9
 simp only[hN];clear hN;go_wp2_with (first
  | (with_reducible refine cp 6 (.alloc 32) ?_;refine ag d8 d5 e1 z z D.1.size z ?_;intro W4 k4 b4 s4;have K4:=O k4;have Z:=O b4;clear k4 b4)
  | (with_reducible refine s0 32 ?_;refine af br z (.tmp 6) (.tmp 12) z D.1.size [I G,I pc] _ z z K4.o z (cl G pc) ?_;intro S k5 c5;have J:=O (EQ k5 c5);clear k5 c5)
 )
 refine U.o _ _ ?_;clear U KK;have f1:=a5.o.lt;have g2:=a4.o.lt;have c8:=O (J.o.2.CV (by omega) (a5.o.below Z.o));have X:=O (J.o.2.CV (by omega) (a4.o.below Z.o));have a0:Hid (FM D.1.size D S):=O (J.o.2.below rl Z.o);have E:=O (d3.o.trans (a0.o.mono (by omega)));have a2:=O (cQ.keep (fun b o u _ K=>ai a0.o b o u K) a9.o);have a6:=O J.o.1;clear a5 a4 d3 K4 Z J a9 f1 g2 s4 f0 d9 s2;by_cases he:er=0;rotate_left
 .have g:=N.o;rw[aD he]at g;have g3:=O g;clear N g;go_wp2_with fail;obtain⟨F,H⟩:=eX (S.drew);have f5:Hid (ak F w.1.size 30 fm):=O (by rw[<-H];exact c8.o.drew);have f2:Hid (ak F (w.1.size+1) 32 [I 0,I 0]):=O (by rw[<-H];exact X.o.drew);have d2:Hid (ak F D.1.size 32 [I G,I pc]):=O (by rw[<-H];exact a6.o.drew);have g1:Hid (bL w F):=O (by rw[<-H];exact E.o.drew);clear c8 X a6 E a0 a2;refine al [] (fun W=>ak W D.1.size 32 [I G,I pc]) g4 ?_;rw[H];clear H;have HS:Hid (ak F D.1.size 32 [.int .i64 G,.int .i64 pc]):=d2;refine fa 0 ?_;refine aM 1 (some 17) (v:=?_) z z (by kernel_rfl) (fun _ _ _ h=>h) HS.o (GJ ⟨by rfl,?_⟩) ?_;rotate_left
  .intro W1 b7;have k0:=b7.cell 0;have k1:=b7.cell 1;simp only[FE,FH]at k0 k1;clear b7;go_simp;first|with_reducible rfl|rw[am (by omega)]
  refine fa 2 ?_;refine nm ?_;refine oD 3 fun a8 Y=>?_;refine an bN (.tmp 2) (.tmp 16) z w.1.size fm _ z z f5.o z ⟨z,by decide⟩ ?_;intro W7 V c7;have A:=O (EQ V c7);clear V c7;have e3:=O (A.o.2.CV (by have:=d4.o;omega) d2.o);refine Y _ _ (fun _=>e3.o) ?_;clear Y a8;refine oD 4 fun a8 Y=>?_;refine an br (.tmp 3) (.tmp 17) z (w.1.size+1) [I G,I pc] _ z z (A.o.2.CV (by omega) f2.o) z (cl G pc) ?_;intro W8 M Q;have C:=O (EQ M Q);clear M Q;have e9:=O (C.o.2.CV (by have:=d4.o;omega) e3.o);refine Y _ _ (fun _=>e9.o) ?_;clear Y a8;refine fa 5 ?_;refine nm ?_;refine dn ?_;go_wp2_with fail;refine ga e4 d1 bN e6 d6 br (C.o.2.CV (by omega) A.o.1) z C.o.1 z z z z z z ?_;rw[<-g3.o]
  exact⟨⟨fm,z,eQ _ _⟩,C.o.2.below (by omega) (A.o.2.below (by omega) g1.o)⟩
 .subst he;have g:=N.o;rw[am (by decide)]at g;have hf:=lV (nmf:=nmf) l a cap S (a7.o trivial) a2.o (fun W hw=>c9.o W a cap (E.o.trans (hw.mono E.o.size)) (a7.o trivial) (cQ.keep (fun b o u _ K=>ai hw b o u K) a2.o));have e5:(if co nmf l=true then cW l else (fz,(0,0),2))=R:=g;rw[e5,HN.o]at hf;clear g e5 N;go_wp2_with fail;refine hf.mono ?_;clear hf;rintro e W6 ⟨⟨ps,rfl,b6⟩,j⟩;have f7:=O (c8.o.below j);have g5:=O (X.o.below j);have f3:=O (E.o.trans (j.mono E.o.size));have f9:=O b6;have e0:=O b6.cells;have g9:=E.o.size;have g6:=X.o.lt;clear j b6 c8 X E a0 a2 a6;go_wp2_with (first
   | (with_reducible refine s0 30 ?_;refine af bN z (.tmp 2) (.tmp 21) z w.1.size ps _ z z f7.o z e0.o ?_;intro W7 V c7;have A:=O (EQ V c7);clear V c7)
   | (with_reducible refine s0 32 ?_;refine af br z (.tmp 3) (.tmp 22) z (w.1.size+1) [I R.2.1.1,I R.2.1.2] _ z z (A.o.2.CV (by omega) g5.o) z (cl _ _) ?_;intro W8 M Q;have C:=O (EQ M Q);clear M Q)
  )
  refine ga e4 d1 bN e6 d6 br (C.o.2.CV (by omega) A.o.1) e0.o.1 C.o.1 z z z z z z ?_;refine⟨⟨ps,z,?_⟩,C.o.2.below (by omega) (A.o.2.below (by omega) f3.o)⟩;refine ei.CQ (fun c hc=>?_) (f9.o.keep fun b o u j K=>?_)
  .have h1:S.1.size<=c:=hc;show w.1.size<=c;omega
  .have g8:S.1.size<=b:=j;rw[C.o.2.cell (by omega),A.o.2.cell (by omega)];exact K
def sk(W:Fk)(e:Ending)(w':Fk):Prop:=e= .returned (.bool true)/\FM W.1.size W w'
theorem Ro.DL{j:Type}{E:El j}{ok:Nat->Prop}{cap:Nat}{l:List j}(h:Ro E ok W (.slice a n cap) l){x:j}(K:l[i]? =some x)(M:E.sz=1)(G:∀cs,E.L ok W cs x->cs=[v]):∃b g,a=some ⟨b,g,none⟩/\W.cell? ⟨b,g+i,none⟩=some v:=by obtain⟨Q,N,F,-,A⟩:=h;obtain⟨b,g,cs,D,-,C,J⟩:=A i x K;cases F;refine⟨b,g,D,?_⟩;have H:=G cs J;subst H;have w:=C 0 v z;rw[M,Nat.mul_one,Nat.add_zero]at w;exact w
theorem rF{Q Q0:Nat->Prop}(l:List Int)(A:Ro (lg 2) Q W v0 l)(C:Ro (lg 2) Q0 W v1 l):Jq prog 26 #[v0,v1] W (sk W):=by
 have b5:prog.follows .mixedOrders=true:=by kernel_rfl
 obtain⟨a1,c1,rfl,K,-⟩:=id A;obtain⟨a2,c2,rfl,b4,-⟩:=id C;obtain⟨j,N⟩:=eX (l.length);rw[N]at A C K ⊢;have Z:=O N;have V:=O A;have Y:=O C;have U:=O fun _:True=>K;clear N A C K b4;go_in;go_wp2;go_loopg [5] j (fun x iv wr=>∃i:Nat,i<=j/\x=j-i/\iv=I i/\Hid (bL W wr));case atStart=>exact⟨0,FX _,z,z,O (FB _ _)⟩
 case round=>
  obtain⟨i,hi,rfl,rfl,G⟩:=hrel;by_cases a4:i<j
  .have a7:(i:Int)< (j:Int):=by omega
   have a8:(0:Int)<=(i:Int):=by omega
   have a0:Hid (wrap64 ((i:Int)+1)=((i+1:Nat):Int)):=O (by have A:=(U trivial).1;have C:=(U trivial).2;have:=Gi ((i:Int)+1) (by omega);rw[this];omega)
   obtain⟨x,J⟩:∃x,l[i]? =some x:=⟨_,FC (by rw[Z.o];exact a4)⟩;obtain⟨b1,o1,rfl,R⟩:=V.DL J z (v:=I x) (fun cs h=>h);obtain⟨b2,o2,rfl,S⟩:=Y.DL J z (v:=I x) (fun cs h=>h);obtain⟨w,M⟩:=eX (wr.drew);have H:Hid (bL W w):=O (by rw[<-M];exact G.trans ((FB _ _).drew));have F:=ai H b1 (o1+i) _ R;have E:=ai H b2 (o2+i) _ S;have a3:=O F;have a5:=O E;clear R S F E J;go_wp2;apply al [] (fun a9=>a9=w) b5;rw[M];clear M G;have g:Hid (w=w):=O z;refine ke 0 ?_;refine aM 3 (some 20) (v:=?_) z z (by kernel_rfl) (fun _ _ _ h=>h) g (GJ ⟨by rfl,?_⟩) ?_;rotate_left
   .intro X D;have F:=a3.o;rw[D];clear D;go_simp;first|with_reducible rfl|rw[am (by omega)]
   refine nm ?_;refine ke 4 ?_;refine aM 7 (some 24) (v:=?_) z z (by kernel_rfl) (fun _ _ _ h=>h) g (GJ ⟨by rfl,?_⟩) ?_;rotate_left
   .intro X D;have E:=a5.o;rw[D];clear D;go_simp;first|with_reducible rfl|rw[am (by omega)]
   refine nm ?_;refine fa 8 ?_;refine nm ?_;refine dn ?_;clear g;go_wp2;go_roundg (j- (i+1));case measure=>omega
   case rel=>exact⟨i+1,by omega,z,congrArg (Gr .i64) a0,H⟩
  .obtain rfl:i=j:=by omega
   have a6:¬ (i:Int)< (i:Int):=by omega
   go_wp2;go_ret;exact⟨z,G⟩
theorem lt{Q Q0:Nat->Prop}(l:List Int)(A:Ro (lg 3) Q W v0 l)(C:Ro (lg 3) Q0 W v1 l):Jq prog 27 #[v0,v1] W (sk W):=by
 have b5:prog.follows .mixedOrders=true:=by kernel_rfl
 obtain⟨a1,c1,rfl,K,-⟩:=id A;obtain⟨a2,c2,rfl,b4,-⟩:=id C;obtain⟨j,N⟩:=eX (l.length);rw[N]at A C K ⊢;have Z:=O N;have V:=O A;have Y:=O C;have U:=O fun _:True=>K;clear N A C K b4;go_in;go_wp2;go_loopg [5] j (fun x iv wr=>∃i:Nat,i<=j/\x=j-i/\iv=I i/\Hid (bL W wr));case atStart=>exact⟨0,FX _,z,z,O (FB _ _)⟩
 case round=>
  obtain⟨i,hi,rfl,rfl,G⟩:=hrel;by_cases a4:i<j
  .have a7:(i:Int)< (j:Int):=by omega
   have a8:(0:Int)<=(i:Int):=by omega
   have a0:Hid (wrap64 ((i:Int)+1)=((i+1:Nat):Int)):=O (by have A:=(U trivial).1;have C:=(U trivial).2;have:=Gi ((i:Int)+1) (by omega);rw[this];omega)
   obtain⟨x,J⟩:∃x,l[i]? =some x:=⟨_,FC (by rw[Z.o];exact a4)⟩;obtain⟨b1,o1,rfl,R⟩:=V.DL J z (v:=I x) (fun cs h=>h);obtain⟨b2,o2,rfl,S⟩:=Y.DL J z (v:=I x) (fun cs h=>h);obtain⟨w,M⟩:=eX (wr.drew);have H:Hid (bL W w):=O (by rw[<-M];exact G.trans ((FB _ _).drew));have F:=ai H b1 (o1+i) _ R;have E:=ai H b2 (o2+i) _ S;have a3:=O F;have a5:=O E;clear R S F E J;go_wp2;apply al [] (fun a9=>a9=w) b5;rw[M];clear M G;have g:Hid (w=w):=O z;refine ke 0 ?_;refine aM 3 (some 20) (v:=?_) z z (by kernel_rfl) (fun _ _ _ h=>h) g (GJ ⟨by rfl,?_⟩) ?_;rotate_left
   .intro X D;have F:=a3.o;rw[D];clear D;go_simp;first|with_reducible rfl|rw[am (by omega)]
   refine nm ?_;refine ke 4 ?_;refine aM 7 (some 24) (v:=?_) z z (by kernel_rfl) (fun _ _ _ h=>h) g (GJ ⟨by rfl,?_⟩) ?_;rotate_left
   .intro X D;have E:=a5.o;rw[D];clear D;go_simp;first|with_reducible rfl|rw[am (by omega)]
   refine nm ?_;refine fa 8 ?_;refine nm ?_;refine dn ?_;clear g;go_wp2;go_roundg (j- (i+1));case measure=>omega
   case rel=>exact⟨i+1,by omega,z,congrArg (Gr .i64) a0,H⟩
  .obtain rfl:i=j:=by omega
   have a6:¬ (i:Int)< (i:Int):=by omega
   go_wp2;go_ret;exact⟨z,G⟩
theorem fJ{Q Q0:Nat->Prop}(l:List ByteArray)(A:Ro fl Q W v0 l)(C:Ro fl Q0 W v1 l):Jq prog 28 #[v0,v1] W (sk W):=by
 have b5:prog.follows .mixedOrders=true:=by kernel_rfl
 obtain⟨a1,c1,rfl,K,-⟩:=id A;obtain⟨a2,c2,rfl,b4,-⟩:=id C;obtain⟨j,N⟩:=eX (l.length);rw[N]at A C K ⊢;have Z:=O N;have V:=O A;have Y:=O C;have U:=O fun _:True=>K;clear N A C K b4;go_in;go_wp2;go_loopg [5] j (fun x iv wr=>∃i:Nat,i<=j/\x=j-i/\iv=I i/\Hid (bL W wr));case atStart=>exact⟨0,FX _,z,z,O (FB _ _)⟩
 case round=>
  obtain⟨i,hi,rfl,rfl,G⟩:=hrel;by_cases a4:i<j
  .have a7:(i:Int)< (j:Int):=by omega
   have a8:(0:Int)<=(i:Int):=by omega
   have a0:Hid (wrap64 ((i:Int)+1)=((i+1:Nat):Int)):=O (by have A:=(U trivial).1;have C:=(U trivial).2;have:=Gi ((i:Int)+1) (by omega);rw[this];omega)
   obtain⟨x,J⟩:∃x,l[i]? =some x:=⟨_,FC (by rw[Z.o];exact a4)⟩;obtain⟨b1,o1,rfl,R⟩:=V.DL J z (v:= .string x) (fun cs h=>h);obtain⟨b2,o2,rfl,S⟩:=Y.DL J z (v:= .string x) (fun cs h=>h);obtain⟨w,M⟩:=eX (wr.drew);have H:Hid (bL W w):=O (by rw[<-M];exact G.trans ((FB _ _).drew));have F:=ai H b1 (o1+i) _ R;have E:=ai H b2 (o2+i) _ S;have a3:=O F;have a5:=O E;clear R S F E J;go_wp2;apply al [] (fun a9=>a9=w) b5;rw[M];clear M G;have g:Hid (w=w):=O z;refine ke 0 ?_;refine aM 3 (some 20) (v:=?_) z z (by kernel_rfl) (fun _ _ _ h=>h) g (GJ ⟨by rfl,?_⟩) ?_;rotate_left
   .intro X D;have F:=a3.o;rw[D];clear D;go_simp;first|with_reducible rfl|rw[am (by omega)]
   refine nm ?_;refine ke 4 ?_;refine aM 7 (some 24) (v:=?_) z z (by kernel_rfl) (fun _ _ _ h=>h) g (GJ ⟨by rfl,?_⟩) ?_;rotate_left
   .intro X D;have E:=a5.o;rw[D];clear D;go_simp;first|with_reducible rfl|rw[am (by omega)]
   refine nm ?_;refine fa 8 ?_;refine nm ?_;refine dn ?_;clear g;go_wp2;go_roundg (j- (i+1));case measure=>omega
   case rel=>exact⟨i+1,by omega,z,congrArg (Gr .i64) a0,H⟩
  .obtain rfl:i=j:=by omega
   have a6:¬ (i:Int)< (i:Int):=by omega
   go_wp2;go_ret;exact⟨z,G⟩
def vo(x:Ex):Prop:=∀ (cs1 cs2:List Fr) (W:Fk),ExL (fun _=>True) W cs1 x->ExL (fun _=>True) W cs2 x->Jq prog 46 #[.agg cs1.toArray,.agg cs2.toArray] W (sk W)
theorem tW(k n:Int)(s:ByteArray)(sl:Int)(lo:Bool)(E:Int)(args:List Ex)(IH:∀x∈args,vo x):vo (.mk k n s sl lo E args):=by
 intro d7 b5 w c9 b9;obtain⟨a8,b7,a9⟩:=en;have d9:prog.follows .mixedOrders=true:=by kernel_rfl
 unfold ExL at c9 b9;obtain⟨H,c1,a0,a2,d0⟩:=c9;obtain⟨N,c2,a3,-,d6⟩:=b9;have b6:dT w H args:=d0;have d2:dT w N args:=d6;obtain⟨g,hN⟩:∃g,args.length=g:=⟨_,rfl⟩;rw[hN]at a0 a3 a2;have e8:Hid (d7=gv k n s sl lo E (.slice H g c1)):=O a0;have e1:Hid (b5=gv k n s sl lo E (.slice N g c2)):=O a3;have Z:=O hN;have e2:=O b6;have e6:=O d2;have e7:=O IH;have d3:=O fun _:True=>a2;clear a0 a3 a2 d0 d6 b6 d2 IH hN;go_enter func46,ntmps46;refine wk fun V J=>?_;go_wp2_with (first
  | ((with_reducible refine cp 2 (.box 58 _) ?_);refine aJ rfl (.tmp 0) rfl d7 rfl w.1.size rfl ?_;intro M k1 b1 b8;have a1:=O k1;have X:=O b1;clear k1 b1)
  | ((with_reducible refine cp 3 (.box 58 _) ?_);refine aJ rfl (.tmp 1) rfl b5 rfl (w.1.size+1) b8 ?_;intro C k2 b2 s2;have K2:=O k2;have Y:=O b2;clear k2 b2)
  |fail)
 refine J.o _ _ ?_;clear J V;obtain⟨z,Q⟩:∃z,w.1.size=z:=⟨_,rfl⟩;rw[Q]at a1 K2;rw[Q];have A:Hid (FM w.1.size w C/\ak C z 58 (gv k n s sl lo E (.slice H g c1))/\ak C (z+1) 58 (gv k n s sl lo E (.slice N g c2))):=O (by rw[<-e8.o,<-e1.o];have e3:=X.o.trans (Y.o.mono (by have:=X.o.size;omega));exact⟨e3,a1.o.below Y.o,K2.o⟩)
 have HZ:=O Q;clear a1 K2 X Y b8 s2 Q;refine wk fun V J=>?_;have p0:C.cell? ⟨z,0,none⟩=some (.int .i64 k):=A.o.2.1.cell 0;have p1:C.cell? ⟨z,1,none⟩=some (.int .i64 n):=A.o.2.1.cell 1;have p2:C.cell? ⟨z,2,none⟩=some (.string s):=A.o.2.1.cell 2;have p3:C.cell? ⟨z,3,none⟩=some (.int .i64 sl):=A.o.2.1.cell 3;have p4:C.cell? ⟨z,4,none⟩=some (.bool lo):=A.o.2.1.cell 4;have p5:C.cell? ⟨z,5,none⟩=some (.int .i64 E):=A.o.2.1.cell 5;have p6:C.cell? ⟨z,6,none⟩=some (.slice H g c1):=A.o.2.1.cell 6;have q0:C.cell? ⟨z+1,0,none⟩=some (.int .i64 k):=A.o.2.2.cell 0;have q1:C.cell? ⟨z+1,1,none⟩=some (.int .i64 n):=A.o.2.2.cell 1;have q2:C.cell? ⟨z+1,2,none⟩=some (.string s):=A.o.2.2.cell 2
 have q3:C.cell? ⟨z+1,3,none⟩=some (.int .i64 sl):=A.o.2.2.cell 3;have q4:C.cell? ⟨z+1,4,none⟩=some (.bool lo):=A.o.2.2.cell 4;have q5:C.cell? ⟨z+1,5,none⟩=some (.int .i64 E):=A.o.2.2.cell 5;have q6:C.cell? ⟨z+1,6,none⟩=some (.slice N g c2):=A.o.2.2.cell 6;go_wp2_with fail;refine J.o _ _ ?_;clear J V p0 p1 p2 p3 p4 p5 p6 q0 q1 q2 q3 q4 q5 q6;refine wk fun V J=>?_;go_wp2_with fail;go_loopg [5] g (fun x iv wr=>∃i:Nat,i<=g/\x=g-i/\iv=I i/\Hid (FM w.1.size w wr/\ak wr z 58 (gv k n s sl lo E (.slice H g c1))/\ak wr (z+1) 58 (gv k n s sl lo E (.slice N g c2))));case atStart=>exact⟨0,FX _,rfl,rfl,A⟩
 case round=>
  clear A;obtain⟨i,hi,rfl,rfl,A⟩:=hrel;have p6:wr.cell? ⟨z,6,none⟩=some (.slice H g c1):=A.o.2.1.cell 6;by_cases a4:i<g
  .have f1:(i:Int)< (g:Int):=by omega
   have e9:(0:Int)<=(i:Int):=by omega
   have e0:Hid (wrap64 ((i:Int)+1)=((i+1:Nat):Int)):=O (by have h1:=(d3.o trivial).1;have h2:=(d3.o trivial).2;have:=Gi ((i:Int)+1) (by omega);rw[this];omega)
   obtain⟨D,hV⟩:∃D,wr.drew=D:=⟨_,rfl⟩;have G:Hid (FM w.1.size w D/\ak D z 58 (gv k n s sl lo E (.slice H g c1))/\ak D (z+1) 58 (gv k n s sl lo E (.slice N g c2))):=O (by rw[<-hV];exact⟨A.o.1.trans (FB _ _).drew,A.o.2.1.drew,A.o.2.2.drew⟩);obtain⟨b1,o1,U,rfl,c8,d8⟩:=dT.at (dT.below e2.o G.o.1) (j:=i) (by rw[Z.o];exact a4);obtain⟨b2,o2,S,rfl,d1,b4⟩:=dT.at (dT.below e6.o G.o.1) (j:=i) (by rw[Z.o];exact a4);have d4:args.getD i aT∈args:=by rw[FD,FC (by rw[Z.o];exact a4)];exact Gy _
   have d5:=e7.o _ d4;generalize args.getD i aT=x at *;have a7:=O d5;have R:Hid (ExL (fun _=>True) D U x/\ExL (fun _=>True) D S x):=O ⟨d8,b4⟩;have a6:Hid (D.rangeAt b1 (o1+i*7) U/\D.rangeAt b2 (o2+i*7) S):=O ⟨c8,d1⟩;clear d5 d8 b4 c8 d1 d4;go_wp2_with fail;refine al [] (fun W'=>FM D.1.size D W') d9 ?_;rw[hV];clear hV p6 A;have F:Hid (FM D.1.size D D):=O (FB _ _);refine tk 0 (some 62) F ?_;refine tf (fun M=>M.cell? ⟨z,6,none⟩=some (.slice (some ⟨b1,o1,none⟩) g c1)) 1 (some 63) F (fun M a5=> (G.o.2.1.below a5).cell 6) ?_;refine tk 2 (some 64) F ?_;refine tk 3 (some 65) F ?_;refine nm ?_
   refine tl 4 66 F 58 65 b1 (o1+i*7) U a8 (fun W hS=>fun j u hu=>ai hS _ _ _ (a6.o.1 j u hu)) b7 a9 (by rw[R.o.1.cells.1];exact be) ?_;refine tk 5 (some 67) F ?_;refine tf (fun M=>M.cell? ⟨z+1,6,none⟩=some (.slice (some ⟨b2,o2,none⟩) g c2)) 6 (some 68) F (fun M a5=> (G.o.2.2.below a5).cell 6) ?_;refine tk 7 (some 69) F ?_;refine nm ?_;refine tk 8 (some 70) F ?_;refine tl 9 71 F 58 70 b2 (o2+i*7) S a8 (fun W hS=>fun j u hu=>ai hS _ _ _ (a6.o.2 j u hu)) b7 a9 (by rw[R.o.2.cells.1];exact be) ?_;refine nm ?_;refine oD 10 fun e5 hK=>?_;go_simp;refine(a7.o U S D R.o.1 R.o.2).mono ?_;rintro e W3 ⟨rfl,hb⟩;have K:=O hb;refine hK _ _ (fun _=>K.o) ?_;clear hK e5 hb;try refine nm ?_
   refine tk 11 (some 73) K ?_;refine nm ?_;refine dn ?_;have e4:Hid (FM w.1.size w W3/\ak W3 z 58 (gv k n s sl lo E (.slice (some ⟨b1,o1,none⟩) g c1))/\ak W3 (z+1) 58 (gv k n s sl lo E (.slice (some ⟨b2,o2,none⟩) g c2))):=O ⟨G.o.1.trans (K.o.mono G.o.1.size),G.o.2.1.below K.o,G.o.2.2.below K.o⟩;clear F K G R a6 a7;go_wp2_with fail;go_roundg (g- (i+1));case measure=>omega
   case rel=>exact⟨i+1,by omega,rfl,congrArg (Gr .i64) e0.o,e4⟩
  .obtain rfl:i=g:=by omega
   have f0:¬ (i:Int)< (i:Int):=by omega
   go_wp2_with fail;refine J.o _ _ ?_;go_wp2_with fail;go_ret;exact⟨rfl,A.o.1⟩
mutual
theorem ig:∀x:Ex,vo x
 | .mk k n s sl lo op args=>tW k n s sl lo op args (nM args)
theorem nM:∀ (l:List Ex),∀x∈l,vo x
 | [],x,hx=>by cases hx
 |y::r,x,hx=>by
  by_cases e:x=y
  .rw[e]
   exact ig y
  .exact nM r x ((FQ.1 hx).resolve_left e)
end
def nK(l:List St):Prop:=∀ (a1 a2:Option Addr) (c1 c2:Nat) (W:Fk),aF l.length c1->aE (fun _=>True) W a1 0 l->aE (fun _=>True) W a2 0 l->Jq prog 18 #[.slice a1 l.length c1,.slice a2 l.length c2] W (sk W)
def yf:St->Prop
 | .mk _ _ _ _ _ _ _ body els _ _ _ _=>nK body/\nK els
theorem ka(l:List St)(j7:∀s∈l,yf s):nK l:=by
 intro a1 a2 c1 c2 w g3 N X;let ⟨i9,l4,j6⟩:=hj
 let ⟨d5,b7,b9⟩:=en
 let ⟨i6,z6,f4,f6,f3⟩:=ki
 have l9:prog.follows .mixedOrders=true:=by kernel_rfl
 obtain⟨b4,hN⟩:=eX l.length;rw[hN]at g3 ⊢;have HN:=O hN;have H1:=O N;have H2:=O X;have o0:=O j7;have k6:=O fun _:True=>g3;clear g3 N X j7 hN;go_enter func18,ntmps18;refine wk fun KK d7=>?_;go_wp2;apply d7;clear d7 KK;refine wk fun KK d7=>?_;go_wp2;apply d7;clear d7 KK;refine wk fun KK d7=>?_;go_wp2;go_loopg [5] b4 (fun x iv wr=>∃i:Nat,i<=b4/\x=b4-i/\iv=I i/\Hid (FM w.1.size w wr));case atStart=>exact⟨0,FX _,z,z,O (FB _ _)⟩
 case round=>
  obtain⟨i,hi,rfl,rfl,HB⟩:=hrel;by_cases f9:i<b4
  .have p6:(i:Int)< (b4:Int):=by omega
   have o5:(0:Int)<=(i:Int):=by omega
   have k2:Hid (wrap64 ((i:Int)+1)=((i+1:Nat):Int)):=O (by have N:=(k6 trivial).1;have X:=(k6 trivial).2;have:=Gi ((i:Int)+1) (by omega);rw[this];omega)
   obtain⟨Q,hV⟩:=eX wr.drew;have e4:Hid (FM w.1.size w Q):=O (by rw[<-hV];exact HB.trans (FB _ _).drew);obtain⟨b1,o1,b6,rfl,-,k7,l6⟩:=(H1.Do e4).at i (by rw[HN.o];exact f9);obtain⟨b2,o2,d2,rfl,-,j9,j5⟩:=(H2.Do e4).at i (by rw[HN.o];exact f9);have i7:l.getD i default∈l:=by rw[FD,FC (by rw[HN.o];exact f9)];exact Gy _
   have M:=o0 _ i7;generalize l.getD i default=s at *;let ⟨k,U,V,S,t,x,y,body,els,id,sl,ot,lo⟩:=s
   unfold bX at l6 j5;let ⟨h1,a3,c9,b8,c8,b5,e5,h7,g5,k9,f0,j3,l5⟩:=l6
   obtain⟨a0,a4,d1,d3,d4,d0,e6,h9,h3,-,e9,-,i8⟩:=j5;obtain⟨NB,g9⟩:=eX body.length;obtain⟨NE,i0⟩:=eX els.length;rw[g9]at e5 e6;rw[i0]at e5 e6;have f2:Hid (nK body/\nK els):=O M;have e8:=O (EQ g9 i0);have R:=O (EQ h7 h9);have HY:=O (EQ g5 h3);have e2:=O (EQ k9 (EQ f0 e9));have e3:=O (EQ j3 (EQ l5 i8));have g8:Hid (b6.length=25/\∀v∈b6,v.oneCell'=true):=O (by rw[show b6=cO k U V S t h1 a3 (.slice c9 NB c8) (.slice b8 NE b5) id sl ot lo from e5];exact hk h7.cells g5.cells);have h8:Hid (d2.length=25/\∀v∈d2,v.oneCell'=true):=O (by rw[show d2=cO k U V S t a0 a4 (.slice d1 NB d4) (.slice d3 NE d0) id sl ot lo from e6];exact hk h9.cells h3.cells)
   have e7:Hid (b6=cO k U V S t h1 a3 (.slice c9 NB c8) (.slice b8 NE b5) id sl ot lo/\d2=cO k U V S t a0 a4 (.slice d1 NB d4) (.slice d3 NE d0) id sl ot lo):=O ⟨e5,e6⟩;have j4:Hid (Q.rangeAt b1 (o1+i*25) b6/\Q.rangeAt b2 (o2+i*25) d2):=O ⟨fun t v hv=>by simpa using k7 t v hv,fun t v hv=>by simpa using j9 t v hv⟩;clear M h7 h9 g5 h3 k9 f0 e9 j3 l5 i8 k7 j9 i7 e5 e6 g9 i0;go_wp2;apply al [] (fun W'=>FM Q.1.size Q W') l9;rw[hV];clear hV HB;have Z:Hid (FM Q.1.size Q Q):=O (FB _ _);refine ke 0 ?_;refine tl 3 22 Z 60 21 b1 (o1+i*25) b6 i9 (fun W hS=>fun j u hu=>ai hS _ _ _ (j4.1 j u hu)) l4 j6 (by rw[g8.o.1];exact ar) ?_;refine nm ?_;refine ke 4 ?_
   refine tl 7 26 Z 60 25 b2 (o2+i*25) d2 i9 (fun W hS=>fun j u hu=>ai hS _ _ _ (j4.2 j u hu)) l4 j6 (by rw[h8.o.1];exact ar) ?_;refine nm ?_;refine cj [8,9] (by kernel_rfl) ?_ (by decide);intro i hi;simp only[FQ,FO,or_false]at hi;rcases hi with rfl|rfl
   .refine⟨_,z,z,fun G H=>?_⟩;obtain⟨J,f0⟩:=eX Q.1.size;refine aw f4 f6 f3 z J f0 ?_;intro X1 D g o6;have f5:=O (Z.trans (g.mono Z.size));have m8:=O D;have l3:Hid (Q.1.size<=J/\J<X1.1.size):=O ⟨by have:=Z.size;omega,D.lt⟩;change G (Gf _ (some 6) _) X1;apply H _ _ (fun _=>f5);clear H G D g;refine nm ?_;refine oD 9 fun G H=>?_;obtain⟨K,e9⟩:∃b,X1.1.size=b:=⟨_,z⟩;refine aw f4 f6 f3 z K e9 ?_;intro X2 D g o9;have k1:=O (f5.o.trans (g.mono f5.o.size));have m0:=O D;have m9:Hid (Q.1.size<=K/\K<X2.1.size):=O ⟨by have:=f5.o.size;omega,D.lt⟩;have l7:=O (m8.o.below g);have k0:Hid (J≠K):=O (by have N:=l3.o.2;omega);change G (Gf _ (some 7) _) X2;refine H _ _ (fun _=>k1.o) ?_;clear H G D g;refine nm ?_
    refine oD 10 fun G H=>?_;refine an ar (.tmp 6) (.tmp 22) z J b6 _ z z l7.o z g8.o ?_;intro X3 D Y;have j2:=O (Y.below l3.o.1 k1.o);have m7:=O D;have n6:=O (Y.CV (by have:=k0.o;omega) m0.o);change G (Gf _ none _) X3;refine H _ _ (fun _=>j2.o) ?_;clear H G D Y;refine oD 11 fun G H=>?_;refine an ar (.tmp 7) (.tmp 26) z K d2 _ z z n6.o z h8.o ?_;intro X4 D Y;have i5:=O (Y.below m9.o.1 j2.o);have n0:=O D;have n9:=O (Y.CV (by have:=k0.o;omega) m7.o);change G (Gf _ none _) X4;refine H _ _ (fun _=>i5.o) ?_;clear H G D Y;try simp only[Gf]
    refine dn ?_;have HV:=O i5.o;have A:Hid (ak X4 J 60 (cO k U V S t h1 a3 (.slice c9 NB c8) (.slice b8 NE b5) id sl ot lo)/\ak X4 K 60 (cO k U V S t a0 a4 (.slice d1 NB d4) (.slice d3 NE d0) id sl ot lo)):=O (by rw[<-e7.o.1,<-e7.o.2];exact⟨n9.o,n0.o⟩);generalize X4=U0 at *;have F:=O (bR z R.o.1.cells.1 HY.o.1.cells.1 (C:=cO k U V S t h1 a3 (.slice c9 NB c8) (.slice b8 NE b5) id sl ot lo));have E:=O (bR z R.o.2.cells.1 HY.o.2.cells.1 (C:=cO k U V S t a0 a4 (.slice d1 NB d4) (.slice d3 NE d0) id sl ot lo));have p0:=(A.o.1.cell 0).trans F.o.1;have p1:=(A.o.1.cell 1).trans F.o.2.1;have p2:=(A.o.1.cell 2).trans F.o.2.2.1;have p3:=(A.o.1.cell 3).trans F.o.2.2.2.1
    have p4:=(A.o.1.cell 4).trans F.o.2.2.2.2.1;have h4:=(A.o.1.cell 21).trans F.o.2.2.2.2.2.2.2.1;have i1:=(A.o.1.cell 22).trans F.o.2.2.2.2.2.2.2.2.1;have g4:=(A.o.1.cell 23).trans F.o.2.2.2.2.2.2.2.2.2.1;have g6:=(A.o.1.cell 24).trans F.o.2.2.2.2.2.2.2.2.2.2;have q0:=(A.o.2.cell 0).trans E.o.1;have q1:=(A.o.2.cell 1).trans E.o.2.1;have q2:=(A.o.2.cell 2).trans E.o.2.2.1;have q3:=(A.o.2.cell 3).trans E.o.2.2.2.1;have q4:=(A.o.2.cell 4).trans E.o.2.2.2.2.1;have h0:=(A.o.2.cell 21).trans E.o.2.2.2.2.2.2.2.1;have i3:=(A.o.2.cell 22).trans E.o.2.2.2.2.2.2.2.2.1;have i4:=(A.o.2.cell 23).trans E.o.2.2.2.2.2.2.2.2.2.1;have f7:=(A.o.2.cell 24).trans E.o.2.2.2.2.2.2.2.2.2.2
    have e0:=O (EQ (ExL.sub R.o.1 HV.o) (ExL.sub R.o.2 HV.o));have d8:Hid (U0.rangeAt J 5 h1/\U0.rangeAt K 5 a0):=O (by have N:=A.o.1;have X:=A.o.2;rw[jg]at N X;exact⟨ak.range N z,ak.range X z⟩)
    go_wp2_with (first
     | ((with_reducible refine cp 82 (.load 58 _) ?_);refine Gn z 58 (.tmp 81) z J 5 z h1 d5 d8.o.1 b7 b9 (by rw[R.o.1.cells.1];exact be) ?_)
     | ((with_reducible refine cp 84 (.load 58 _) ?_);refine Gn z 58 (.tmp 83) z K 5 z a0 d5 d8.o.2 b7 b9 (by rw[R.o.2.cells.1];exact be) ?_)
     |fail)
    refine(ig x h1 a0 U0 e0.o.1 e0.o.2).mono ?_;clear p0 p1 p2 p3 p4 h4 i1 g4 g6 q0 q1 q2 q3 q4 h0 i3 i4 f7 e0 d8;rintro e U1 ⟨rfl,g⟩;have a6:=O (HV.o.trans (g.mono HV.o.size));have a7:=O (EQ (A.o.1.below g) (A.o.2.below g));clear g A HV;have e1:=O (EQ (ExL.sub HY.o.1 a6.o) (ExL.sub HY.o.2 a6.o));have d6:Hid (U1.rangeAt J 12 a3/\U1.rangeAt K 12 a4):=O (by have N:=a7.o.1;have X:=a7.o.2;rw[jj]at N X;have g1:=ak.range N z;have g2:=ak.range X z;rw[show (Gr .i64 k::I U::I V:: .string S:: .string t::h1).length=12 by simp[R.o.1.cells.1]]at g1;rw[show (Gr .i64 k::I U::I V:: .string S:: .string t::a0).length=12 by simp[R.o.2.cells.1]]at g2;exact⟨g1,g2⟩)
    go_wp2_with (first
     | ((with_reducible refine cp 89 (.load 58 _) ?_);refine aS z 58 (.tmp 88) z J 12 z a3 d5 d6.o.1 b7 b9 (by rw[HY.o.1.cells.1];exact be) ?_)
     | ((with_reducible refine cp 91 (.load 58 _) ?_);refine aS z 58 (.tmp 90) z K 12 z a4 d5 d6.o.2 b7 b9 (by rw[HY.o.2.cells.1];exact be) ?_)
     |fail)
    refine(ig y a3 a4 U1 e1.o.1 e1.o.2).mono ?_;clear e1 d6;rintro e U2 ⟨rfl,g⟩;have a9:=O (a6.o.trans (g.mono a6.o.size));have a5:=O (EQ (a7.o.1.below g) (a7.o.2.below g));clear g a7 a6;have i2:=(a5.o.1.cell 19).trans F.o.2.2.2.2.2.1;have h5:=(a5.o.2.cell 19).trans E.o.2.2.2.2.2.1;have M:=f2.o.1 c9 d1 c8 d4 U2 e2.o.1 (e2.o.2.1.Do a9.o) (e2.o.2.2.Do a9.o);rw[e8.o.1]at M;go_wp2_with fail;refine M.mono ?_;clear M i2 h5;rintro e U3 ⟨rfl,g⟩;have a8:=O (a9.o.trans (g.mono a9.o.size));have d9:=O (EQ (a5.o.1.below g) (a5.o.2.below g));clear g a5 a9;have f8:=(d9.o.1.cell 20).trans F.o.2.2.2.2.2.2.1;have h6:=(d9.o.2.cell 20).trans E.o.2.2.2.2.2.2.1
    have M:=f2.o.2 b8 d3 b5 d0 U3 e3.o.1 (e3.o.2.1.Do a8.o) (e3.o.2.2.Do a8.o);rw[e8.o.2]at M;go_wp2_with fail;refine M.mono ?_;clear M f8 h6;rintro e U4 ⟨rfl,g⟩;have g7:=O (e4.o.trans ((a8.o.trans (g.mono a8.o.size)).mono e4.o.size));clear g d9 a8;go_wp2_with fail;go_roundg (b4- (i+1));case measure=>omega
    case rel=>exact⟨i+1,by omega,z,congrArg (Gr .i64) k2.o,g7⟩
   .refine⟨_,z,z,fun G H=>?_⟩;obtain⟨K,n8⟩:∃b,Q.1.size=b:=⟨_,z⟩;refine aw f4 f6 f3 z K n8 ?_;intro X5 D g o8;have f1:=O (Z.o.trans (g.mono Z.o.size));have m1:=O D;have j8:Hid (Q.1.size<=K/\K<X5.1.size):=O ⟨by have:=Z.o.size;omega,D.lt⟩;change G (Gf _ (some 7) _) X5;refine H _ _ (fun _=>f1.o) ?_;clear H G D g;refine nm ?_;refine oD 8 fun G H=>?_;obtain⟨J,m2⟩:∃b,X5.1.size=b:=⟨_,z⟩;refine aw f4 f6 f3 z J m2 ?_;intro X6 D g p5;have k8:=O (f1.o.trans (g.mono f1.o.size));have n5:=O D;have m5:Hid (Q.1.size<=J/\J<X6.1.size):=O ⟨by have:=f1.o.size;omega,D.lt⟩;have m3:=O (m1.o.below g);have l2:Hid (J≠K):=O (by have N:=j8.o.2;omega);change G (Gf _ (some 6) _) X6;refine H _ _ (fun _=>k8.o) ?_;clear H G D g
    refine nm ?_;refine oD 10 fun G H=>?_;refine an ar (.tmp 6) (.tmp 22) z J b6 _ z z n5.o z g8.o ?_;intro X7 D Y;have j1:=O (Y.below m5.o.1 k8.o);have m6:=O D;have l8:=O (Y.CV (by have:=l2.o;omega) m3.o);change G (Gf _ none _) X7;refine H _ _ (fun _=>j1.o) ?_;clear H G D Y;refine oD 11 fun G H=>?_;refine an ar (.tmp 7) (.tmp 26) z K d2 _ z z l8.o z h8.o ?_;intro X8 D Y;have j0:=O (Y.below j8.o.1 j1.o);have n7:=O D;have m4:=O (Y.CV (by have:=l2.o;omega) m6.o);change G (Gf _ none _) X8;refine H _ _ (fun _=>j0.o) ?_;clear H G D Y;try simp only[Gf]
    refine dn ?_;have HV:=O j0.o;have A:Hid (ak X8 J 60 (cO k U V S t h1 a3 (.slice c9 NB c8) (.slice b8 NE b5) id sl ot lo)/\ak X8 K 60 (cO k U V S t a0 a4 (.slice d1 NB d4) (.slice d3 NE d0) id sl ot lo)):=O (by rw[<-e7.o.1,<-e7.o.2];exact⟨m4.o,n7.o⟩);generalize X8=U0 at *;have F:=O (bR z R.o.1.cells.1 HY.o.1.cells.1 (C:=cO k U V S t h1 a3 (.slice c9 NB c8) (.slice b8 NE b5) id sl ot lo));have E:=O (bR z R.o.2.cells.1 HY.o.2.cells.1 (C:=cO k U V S t a0 a4 (.slice d1 NB d4) (.slice d3 NE d0) id sl ot lo));have p0:=(A.o.1.cell 0).trans F.o.1;have p1:=(A.o.1.cell 1).trans F.o.2.1;have p2:=(A.o.1.cell 2).trans F.o.2.2.1;have p3:=(A.o.1.cell 3).trans F.o.2.2.2.1
    have p4:=(A.o.1.cell 4).trans F.o.2.2.2.2.1;have h4:=(A.o.1.cell 21).trans F.o.2.2.2.2.2.2.2.1;have i1:=(A.o.1.cell 22).trans F.o.2.2.2.2.2.2.2.2.1;have g4:=(A.o.1.cell 23).trans F.o.2.2.2.2.2.2.2.2.2.1;have g6:=(A.o.1.cell 24).trans F.o.2.2.2.2.2.2.2.2.2.2;have q0:=(A.o.2.cell 0).trans E.o.1;have q1:=(A.o.2.cell 1).trans E.o.2.1;have q2:=(A.o.2.cell 2).trans E.o.2.2.1;have q3:=(A.o.2.cell 3).trans E.o.2.2.2.1;have q4:=(A.o.2.cell 4).trans E.o.2.2.2.2.1;have h0:=(A.o.2.cell 21).trans E.o.2.2.2.2.2.2.2.1;have i3:=(A.o.2.cell 22).trans E.o.2.2.2.2.2.2.2.2.1;have i4:=(A.o.2.cell 23).trans E.o.2.2.2.2.2.2.2.2.2.1;have f7:=(A.o.2.cell 24).trans E.o.2.2.2.2.2.2.2.2.2.2
    have e0:=O (EQ (ExL.sub R.o.1 HV.o) (ExL.sub R.o.2 HV.o));have d8:Hid (U0.rangeAt J 5 h1/\U0.rangeAt K 5 a0):=O (by have N:=A.o.1;have X:=A.o.2;rw[jg]at N X;exact⟨ak.range N z,ak.range X z⟩)
    go_wp2_with (first
     | ((with_reducible refine cp 82 (.load 58 _) ?_);refine Gn z 58 (.tmp 81) z J 5 z h1 d5 d8.o.1 b7 b9 (by rw[R.o.1.cells.1];exact be) ?_)
     | ((with_reducible refine cp 84 (.load 58 _) ?_);refine Gn z 58 (.tmp 83) z K 5 z a0 d5 d8.o.2 b7 b9 (by rw[R.o.2.cells.1];exact be) ?_)
     |fail)
    refine(ig x h1 a0 U0 e0.o.1 e0.o.2).mono ?_;clear p0 p1 p2 p3 p4 h4 i1 g4 g6 q0 q1 q2 q3 q4 h0 i3 i4 f7 e0 d8;rintro e U1 ⟨rfl,g⟩;have a6:=O (HV.o.trans (g.mono HV.o.size));have a7:=O (EQ (A.o.1.below g) (A.o.2.below g));clear g A HV;have e1:=O (EQ (ExL.sub HY.o.1 a6.o) (ExL.sub HY.o.2 a6.o));have d6:Hid (U1.rangeAt J 12 a3/\U1.rangeAt K 12 a4):=O (by have N:=a7.o.1;have X:=a7.o.2;rw[jj]at N X;have g1:=ak.range N z;have g2:=ak.range X z;rw[show (Gr .i64 k::I U::I V:: .string S:: .string t::h1).length=12 by simp[R.o.1.cells.1]]at g1;rw[show (Gr .i64 k::I U::I V:: .string S:: .string t::a0).length=12 by simp[R.o.2.cells.1]]at g2;exact⟨g1,g2⟩)
    go_wp2_with (first
     | ((with_reducible refine cp 89 (.load 58 _) ?_);refine aS z 58 (.tmp 88) z J 12 z a3 d5 d6.o.1 b7 b9 (by rw[HY.o.1.cells.1];exact be) ?_)
     | ((with_reducible refine cp 91 (.load 58 _) ?_);refine aS z 58 (.tmp 90) z K 12 z a4 d5 d6.o.2 b7 b9 (by rw[HY.o.2.cells.1];exact be) ?_)
     |fail)
    refine(ig y a3 a4 U1 e1.o.1 e1.o.2).mono ?_;clear e1 d6;rintro e U2 ⟨rfl,g⟩;have a9:=O (a6.trans (g.mono a6.size));have a5:=O (EQ (a7.1.below g) (a7.2.below g));clear g a7 a6;have i2:=(a5.1.cell 19).trans F.2.2.2.2.2.1;have h5:=(a5.2.cell 19).trans E.2.2.2.2.2.1;have M:=f2.1 c9 d1 c8 d4 U2 e2.1 (e2.2.1.Do a9) (e2.2.2.Do a9);rw[e8.o.1]at M;go_wp2_with fail;apply M.mono;clear M i2 h5;rintro e U3 ⟨rfl,g⟩;have a8:=O (a9.trans (g.mono a9.size));have d9:=O (EQ (a5.1.below g) (a5.2.below g));clear g a5 a9;have f8:=(d9.1.cell 20).trans F.2.2.2.2.2.2.1;have h6:=(d9.2.cell 20).trans E.2.2.2.2.2.2.1;have M:=f2.2 b8 d3 b5 d0 U3 e3.1 (e3.2.1.Do a8) (e3.2.2.Do a8);rw[e8.o.2]at M;go_wp2_with fail
    apply M.mono;clear M f8 h6;rintro e U4 ⟨rfl,g⟩;have g7:=O (e4.trans ((a8.trans (g.mono a8.size)).mono e4.size));clear g d9 a8;go_wp2;go_roundg (b4- (i+1));case measure=>omega
    case rel=>exact⟨i+1,by omega,z,congrArg (Gr .i64) k2,g7⟩
  .obtain rfl:i=b4:=by omega
   have o7:¬ (i:Int)< (i:Int):=by omega
   go_wp2;apply d7;go_wp2;go_ret;exact⟨z,HB⟩
mutual
theorem vf:∀s:St,yf s
 | .mk k l c s t x y body els id sl ot lo=>by
  show nK body/\nK els
  exact⟨ka body (ij body),ka els (ij els)⟩
theorem ij:∀ (l:List St),∀s∈l,yf s
 | [],s,hs=>by cases hs
 |y::r,s,hs=>by
  by_cases e:s=y
  .rw[e]
   exact vf y
  .exact ij r s ((FQ.1 hs).resolve_left e)
end
theorem wV(l:List St):nK l:=ka l (ij l)
theorem iH:(prog.info? 28).map (·.size)=some 5:=by kernel_rfl
theorem wb:∃d,prog.underlying 28=some d/\d.isRow=true:=by
 have h:(prog.underlying 28).map (·.isRow)=some true:=by kernel_rfl
 let ⟨d,g,j⟩:=Option.map_eq_some_iff.1 h
 exact⟨d,g,j⟩
theorem zt:∃i z,prog.info? 28=some i/\i.zero=some z/\z.cells=(Ie 5 (.slice none 0 0):List Fr).toArray:=fH (by kernel_rfl)
theorem pu.at{ok:Nat->Prop}{P:Pg}{n1 n2 n3 n4:Fr}(h:pu ok w P v0 v1 v2 v3 v4 n1 n2 n3 n4)(g:bL w W):pu (fun _=>True) W P v0 v1 v2 v3 v4 n1 n2 n3 n4:=(h.keep fun b o u _ j=>ai g b o u j).CQ fun _ _=>trivial
theorem fy{g:Type}{E:El g}{ok:Nat->Prop}{l:List g}(h:Ro E ok w v l):v.oneCell'=true:=by obtain⟨a,cap,rfl,-⟩:=h;rfl
theorem lG{Q Q0:Nat->Prop}{P:Pg}{n1 n2 n3 n4:Fr}{z:Nat}(d5:prog.follows .mixedOrders=true)(HN:Hid (P.threads.length=j))(b8:Hid (True->aF j g))(Z:Hid (pu Q w P v8 v9 u0 (.slice a0 j g) v0 n1 n2 n3 n4))(G2:Hid (pu Q0 w P u1 v6 v7 (.slice a1 j n0) v1 v2 v3 v4 v5))(A:Hid (bL w W/\(ak W z 30 (fU P v8 v9 u0 (.slice a0 j g) v0 n1 n2 n3 n4 [])/\ak W (z+1) 30 (fU P u1 v6 v7 (.slice a1 j n0) v1 v2 v3 v4 v5 []))/\ak W n5 28 [v0,n1,n2,n3,n4]/\ak W n6 28 [v1,v2,v3,v4,v5]))(hU:l2.length=153:=by rfl):
  Code.wp prog (Jp 3 (f12.body.getD .skip)) (bodyPost prog f12 (sk w)) ⟨(u2::u3::Pt z::Pt (z+1)::u4::Pt n5::Pt n6::l2).toArray,[]⟩ W:=by
 revert l2;apply aN;iterate 153 intro _
 change Code.wp _ _ _ _ _;conv in (Jp _ _)=>whnf
 refine wk fun KK a3=>?_;have p0:W.cell? (ad n5 0)=some (v0):=A.2.2.1.cell 0;have q0:W.cell? (ad n6 0)=some (v1):=A.2.2.2.cell 0;go_wp2_with fail;apply (fJ P.nv (Z.at A.1).nv (G2.at A.1).nv).mono;rintro e V ⟨rfl,C⟩;have J:Hid (bL w V/\(ak V z 30 (fU P v8 v9 u0 (.slice a0 j g) v0 n1 n2 n3 n4 [])/\ak V (z+1) 30 (fU P u1 v6 v7 (.slice a1 j n0) v1 v2 v3 v4 v5 []))/\ak V n5 28 [v0,n1,n2,n3,n4]/\ak V n6 28 [v1,v2,v3,v4,v5]):=O ⟨A.1.trans (C.mono A.1.size),⟨A.2.1.1.below C,A.2.1.2.below C⟩,A.2.2.1.below C,A.2.2.2.below C⟩;clear C A p0 q0;have p1:V.cell? (ad n5 1)=some (n1):=J.2.2.1.cell 1;have q1:V.cell? (ad n6 1)=some (v2):=J.2.2.2.cell 1;go_wp2_with fail
 apply (fJ P.na (Z.at J.1).na (G2.at J.1).na).mono;rintro e X ⟨rfl,C⟩;have K:Hid (bL w X/\(ak X z 30 (fU P v8 v9 u0 (.slice a0 j g) v0 n1 n2 n3 n4 [])/\ak X (z+1) 30 (fU P u1 v6 v7 (.slice a1 j n0) v1 v2 v3 v4 v5 []))/\ak X n5 28 [v0,n1,n2,n3,n4]/\ak X n6 28 [v1,v2,v3,v4,v5]):=O ⟨J.1.trans (C.mono J.1.size),⟨J.2.1.1.below C,J.2.1.2.below C⟩,J.2.2.1.below C,J.2.2.2.below C⟩;clear C J p1 q1;have p2:X.cell? (ad n5 2)=some (n2):=K.2.2.1.cell 2;have q2:X.cell? (ad n6 2)=some (v3):=K.2.2.2.cell 2;go_wp2_with fail;apply (fJ P.nm (Z.at K.1).nm (G2.at K.1).nm).mono;rintro e U ⟨rfl,C⟩
 have G:Hid (bL w U/\(ak U z 30 (fU P v8 v9 u0 (.slice a0 j g) v0 n1 n2 n3 n4 [])/\ak U (z+1) 30 (fU P u1 v6 v7 (.slice a1 j n0) v1 v2 v3 v4 v5 []))/\ak U n5 28 [v0,n1,n2,n3,n4]/\ak U n6 28 [v1,v2,v3,v4,v5]):=O ⟨K.1.trans (C.mono K.1.size),⟨K.2.1.1.below C,K.2.1.2.below C⟩,K.2.2.1.below C,K.2.2.2.below C⟩;clear C K p2 q2;have p3:U.cell? (ad n5 3)=some (n3):=G.2.2.1.cell 3;have q3:U.cell? (ad n6 3)=some (v4):=G.2.2.2.cell 3;go_wp2_with fail;apply (fJ P.nc (Z.at G.1).nc (G2.at G.1).nc).mono;rintro e Y ⟨rfl,C⟩
 have M:Hid (bL w Y/\(ak Y z 30 (fU P v8 v9 u0 (.slice a0 j g) v0 n1 n2 n3 n4 [])/\ak Y (z+1) 30 (fU P u1 v6 v7 (.slice a1 j n0) v1 v2 v3 v4 v5 []))/\ak Y n5 28 [v0,n1,n2,n3,n4]/\ak Y n6 28 [v1,v2,v3,v4,v5]):=O ⟨G.1.trans (C.mono G.1.size),⟨G.2.1.1.below C,G.2.1.2.below C⟩,G.2.2.1.below C,G.2.2.2.below C⟩;clear C G p3 q3;have p4:Y.cell? (ad n5 4)=some (n4):=M.2.2.1.cell 4;have q4:Y.cell? (ad n6 4)=some (v5):=M.2.2.2.cell 4;go_wp2_with fail;apply (fJ P.nh (Z.at M.1).nh (G2.at M.1).nh).mono;rintro e N ⟨rfl,C⟩
 have a5:Hid (bL w N/\(ak N z 30 (fU P v8 v9 u0 (.slice a0 j g) v0 n1 n2 n3 n4 [])/\ak N (z+1) 30 (fU P u1 v6 v7 (.slice a1 j n0) v1 v2 v3 v4 v5 []))/\ak N n5 28 [v0,n1,n2,n3,n4]/\ak N n6 28 [v1,v2,v3,v4,v5]):=O ⟨M.1.trans (C.mono M.1.size),⟨M.2.1.1.below C,M.2.1.2.below C⟩,M.2.2.1.below C,M.2.2.2.below C⟩;clear C M p4 q4;go_wp2;apply a3;clear a3 KK;have R:Hid (bL w N/\ak N z 30 (fU P v8 v9 u0 (.slice a0 j g) v0 n1 n2 n3 n4 [])/\ak N (z+1) 30 (fU P u1 v6 v7 (.slice a1 j n0) v1 v2 v3 v4 v5 [])):=O ⟨a5.1,a5.2.1.1,a5.2.1.2⟩;clear a5;refine wk fun KK a3=>?_;go_wp2
 go_loopg [7] j (fun x iv wr=>∃i:Nat,i<=j/\x=j-i/\iv=I i/\Hid (bL w wr/\ak wr z 30 (fU P v8 v9 u0 (.slice a0 j g) v0 n1 n2 n3 n4 [])/\ak wr (z+1) 30 (fU P u1 v6 v7 (.slice a1 j n0) v1 v2 v3 v4 v5 [])));case atStart=>exact⟨0,FX _,rfl,rfl,R⟩
 case round=>
  clear R;obtain⟨i,hi,rfl,rfl,R⟩:=hrel;have p5:wr.cell? (ad z 5)=some (.slice a0 j g):=R.2.1.cell 5;by_cases d3:i<j
  .have e4:(i:Int)< (j:Int):=by omega
   have e5:(0:Int)<=(i:Int):=by omega
   have d8:Hid (wrap64 ((i:Int)+1)=((i+1:Nat):Int)):=O (by have h1:=(b8 trivial).1;have h2:=(b8 trivial).2;have:=Gi ((i:Int)+1) (by omega);rw[this];omega)
   obtain⟨x,hx⟩:∃x,P.threads[i]? =some x:=⟨_,FC (by rw[HN.o];exact d3)⟩;obtain⟨F,hV⟩:=eX wr.drew;have H:Hid (bL w F/\ak F z 30 (fU P v8 v9 u0 (.slice a0 j g) v0 n1 n2 n3 n4 [])/\ak F (z+1) 30 (fU P u1 v6 v7 (.slice a1 j n0) v1 v2 v3 v4 v5 [])):=O (by rw[<-hV];exact⟨R.1.trans (FB _ _).drew,R.2.1.drew,R.2.2.drew⟩);obtain⟨t1,d1,c9,-,b5⟩:=(Z.at H.1).threads;obtain⟨t2,d2,a9,-,c8⟩:=(G2.at H.1).threads;obtain⟨b1,o1,e0,rfl,-,a4,d6⟩:=b5 i x hx;obtain⟨b2,o2,e3,rfl,-,a2,d4⟩:=c8 i x hx;obtain⟨x1,y1,rfl,b9,d0⟩:=d6;obtain⟨x2,y2,rfl,d9,b4⟩:=d4;simp only[Value.slice.injEq]at c9 a9;obtain⟨rfl,-,-⟩:=c9;obtain⟨rfl,-,-⟩:=a9;let ⟨BN,a7⟩:=eX (x.body.length)
   have S:Hid ((F.cell? (ad b1 (o1+i*3))=some (.string x.name)/\F.cell? (ad b1 (o1+i*3+1))=some (I x.locals)/\F.cell? (ad b1 (o1+i*3+2))=some (.slice x1 BN y1))/\F.cell? (ad b2 (o2+i*3))=some (.string x.name)/\F.cell? (ad b2 (o2+i*3+1))=some (I x.locals)/\F.cell? (ad b2 (o2+i*3+2))=some (.slice x2 BN y2)):=O (by rw[<-a7];exact⟨⟨a4 0 _ rfl,a4 1 _ rfl,a4 2 _ rfl⟩,a2 0 _ rfl,a2 1 _ rfl,a2 2 _ rfl⟩)
   have a6:=wV x.body x1 x2 y1 y2 F b9 d0 b4;rw[a7]at a6;have b7:=O a6;let ⟨e2,a8⟩:=eX (x.name)
   obtain⟨lc,b6⟩:=eX ((x.locals:Int));rw[a8,b6]at S;clear b5 c8 a4 a2 b9 d9 d0 b4 a6 hx a7 a8 b6 x;go_wp2;apply al [] (fun W'=>bL F W') d5;rw[hV];clear hV R p5;have e7:Hid (bL F F):=O (FB _ _);apply fa 0;refine fK (fun D=>D.cell? (ad z 5)=some (.slice (some (ad b1 o1)) j g)) 1 (fun D E=> (H.2.1.below E).cell 5) ?_;apply nk 2;refine nm ?_;apply fa 4;apply fK _ 5 (fun D E=>ai E _ _ _ S.1.1);apply fa 6;refine fK (fun D=>D.cell? (ad (z+1) 5)=some (.slice (some (ad b2 o2)) j n0)) 7 (fun D E=> (H.2.2.below E).cell 5) ?_;refine nm ?_;apply ke 8;apply fK _ 11 (fun D E=>ai E _ _ _ S.2.1);refine nm ?_;apply ke 12
   refine fK (fun D=>D.cell? (ad z 5)=some (.slice (some (ad b1 o1)) j g)) 15 (fun D E=> (H.2.1.below E).cell 5) ?_;refine nm ?_;apply ke 16;apply fK _ 19 (fun D E=>ai E _ _ _ S.1.2.1);refine nm ?_;apply fa 20;refine fK (fun D=>D.cell? (ad (z+1) 5)=some (.slice (some (ad b2 o2)) j n0)) 21 (fun D E=> (H.2.2.below E).cell 5) ?_;apply nk 22;refine nm ?_;apply fa 24;apply fK _ 25 (fun D E=>ai E _ _ _ S.2.2.1);apply nk 26;refine nm ?_;apply nk 28;refine fK (fun D=>D.cell? (ad z 5)=some (.slice (some (ad b1 o1)) j g)) 30 (fun D E=> (H.2.1.below E).cell 5) ?_;apply fa 31;refine nm ?_;apply nk 32;apply fK _ 34 (fun D E=>ai E _ _ _ S.1.2.2);apply fa 35;refine nm ?_
   refine fK (fun D=>D.cell? (ad (z+1) 5)=some (.slice (some (ad b2 o2)) j n0)) 36 (fun D E=> (H.2.2.below E).cell 5) ?_;apply ke 37;refine nm ?_;apply fK _ 40 (fun D E=>ai E _ _ _ S.2.2.2);refine nm ?_;refine jT 41 (by kernel_rfl) rfl (fun d7 hK=>?_);rw[aD (by rfl)];go_simp;apply b7.mono;rintro e W3 ⟨rfl,C⟩;have e6:=O C;apply hK _ _ (fun _=>e6);clear hK d7 C;try refine nm ?_
   apply nk 42;refine nm ?_;refine dn ?_;have G:Hid (bL w W3/\ak W3 z 30 (fU P v8 v9 u0 (.slice (some (ad b1 o1)) j g) v0 n1 n2 n3 n4 [])/\ak W3 (z+1) 30 (fU P u1 v6 v7 (.slice (some (ad b2 o2)) j n0) v1 v2 v3 v4 v5 [])):=O ⟨H.1.trans (e6.mono H.1.size),H.2.1.below e6,H.2.2.below e6⟩;clear e7 e6 H b7 S;go_wp2;go_roundg (j- (i+1));case measure=>omega
   case rel=>exact⟨i+1,by omega,rfl,congrArg (Gr .i64) d8,G⟩
  .obtain rfl:i=j:=by omega
   have e1:¬ (i:Int)< (i:Int):=by omega
   go_wp2;apply a3;go_wp2;go_ret;exact⟨rfl,R.1⟩
theorem np{Q Q0:Nat->Prop}(P:Pg)(h1:ei Q w P l2)(h2:ei Q0 w P l3):Jq prog 12 #[.agg l2.toArray,.agg l3.toArray] w (sk w):=by
 let ⟨h7,i1,b4,b8,b5⟩:=zt
 let ⟨d3,e6,d6⟩:=wb
 have d0:prog.follows .mixedOrders=true:=by kernel_rfl
 let ⟨v0,v1,v4,v5,K,n1,n2,n3,n4,d1,g1⟩:=h1
 let ⟨a2,a5,a4,i2,N,H,G,J,M,d2,g2⟩:=h2
 obtain⟨a6,a8,f3,c9,-⟩:=id g1.threads;obtain⟨a1,a3,e9,-,-⟩:=id g2.threads;subst f3 e9;obtain⟨E,hN⟩:=eX P.threads.length;rw[hN]at d1 d2 g1 g2 c9;have HN:=O hN;have e3:=O fun _:True=>c9;have X:=O g1;have Y:=O g2;have HP:=O (EQ d1 d2);clear d1 d2 g1 g2 hN c9;go_enter func12,ntmps12;refine wk fun KK i4=>?_;go_wp2_with (first
  | (with_reducible refine cp 2 (.box 30 _) ?_;refine aJ rfl (.tmp 0) rfl l2 rfl w.1.size rfl ?_;intro W1 k1 b1 e2;have K1:=O k1;have B1:=O b1;clear k1 b1)
  | (with_reducible refine cp 3 (.box 30 _) ?_;refine aJ rfl (.tmp 1) rfl l3 rfl (w.1.size+1) e2 ?_;intro W2 k2 b2 s2;have K2:=O k2;have B2:=O b2;clear k2 b2)
 )
 apply i4;clear i4 KK;obtain⟨z,hz⟩:=eX w.1.size;rw[hz]at K1 K2;rw[hz];have HZ:=O hz;have HQ:Hid (FM w.1.size w W2/\ak W2 z 30 (fU P v0 v1 v4 (.slice a6 E a8) K n1 n2 n3 n4 [])/\ak W2 (z+1) 30 (fU P a2 a5 a4 (.slice a1 E a3) N H G J M [])):=O (by rw[<-HP.o.1,<-HP.o.2];have f2:=B1.trans (B2.mono (by have:=B1.size;omega));exact⟨f2,K1.below B2,K2⟩)
 clear K1 K2 B1 B2 e2 s2 hz;refine wk fun KK i4=>?_;have p0:W2.cell? (ad z 0)=some (v0):=HQ.2.1.cell 0;have q0:W2.cell? (ad (z+1) 0)=some (a2):=HQ.2.2.cell 0;go_wp2_with fail;apply (rF P.vars (X.at HQ.1).vars (Y.at HQ.1).vars).mono;rintro e U1 ⟨rfl,g⟩;have a7:Hid (FM w.1.size w U1/\ak U1 z 30 (fU P v0 v1 v4 (.slice a6 E a8) K n1 n2 n3 n4 [])/\ak U1 (z+1) 30 (fU P a2 a5 a4 (.slice a1 E a3) N H G J M [])):=O ⟨HQ.1.trans (g.mono HQ.1.size),HQ.2.1.below g,HQ.2.2.below g⟩;clear g HQ p0 q0;have p1:U1.cell? (ad z 1)=some (v1):=a7.2.1.cell 1;have q1:U1.cell? (ad (z+1) 1)=some (a5):=a7.2.2.cell 1;go_wp2_with fail;apply (lt P.CW (X.at a7.1).CW (Y.at a7.1).CW).mono;rintro e U2 ⟨rfl,g⟩
 have V:Hid (FM w.1.size w U2/\ak U2 z 30 (fU P v0 v1 v4 (.slice a6 E a8) K n1 n2 n3 n4 [])/\ak U2 (z+1) 30 (fU P a2 a5 a4 (.slice a1 E a3) N H G J M [])):=O ⟨a7.1.trans (g.mono a7.1.size),a7.2.1.below g,a7.2.2.below g⟩;clear g a7 p1 q1;have p2:U2.cell? (ad z 2)=some (I P.CT):=V.2.1.cell 2;have q2:U2.cell? (ad (z+1) 2)=some (I P.CT):=V.2.2.cell 2;have p3:U2.cell? (ad z 3)=some (I P.conds):=V.2.1.cell 3;have q3:U2.cell? (ad (z+1) 3)=some (I P.conds):=V.2.2.cell 3;have p4:U2.cell? (ad z 4)=some (v4):=V.2.1.cell 4;have q4:U2.cell? (ad (z+1) 4)=some (a4):=V.2.2.cell 4;go_wp2_with fail;apply (lt P.CX (X.at V.1).CX (Y.at V.1).CX).mono;rintro e U3 ⟨rfl,g⟩
 have a0:Hid (FM w.1.size w U3/\ak U3 z 30 (fU P v0 v1 v4 (.slice a6 E a8) K n1 n2 n3 n4 [])/\ak U3 (z+1) 30 (fU P a2 a5 a4 (.slice a1 E a3) N H G J M [])):=O ⟨V.1.trans (g.mono V.1.size),V.2.1.below g,V.2.2.below g⟩;clear g V p2 p3 p4 q2 q3 q4;have p5:U3.cell? (ad z 5)=some (.slice a6 E a8):=a0.2.1.cell 5;have q5:U3.cell? (ad (z+1) 5)=some (.slice a1 E a3):=a0.2.2.cell 5;have p6:U3.cell? (ad z 6)=some (I P.main):=a0.2.1.cell 6;have q6:U3.cell? (ad (z+1) 6)=some (I P.main):=a0.2.2.cell 6;have p7:U3.cell? (ad z 7)=some (I P.stmts):=a0.2.1.cell 7;have q7:U3.cell? (ad (z+1) 7)=some (I P.stmts):=a0.2.2.cell 7;go_wp2;apply i4;clear i4 KK p5 p6 p7 q5 q6 q7;refine wk fun KK i4=>?_
 obtain⟨F,hV⟩:=eX U3.drew;have i5:Hid (FM w.1.size w F/\ak F z 30 (fU P v0 v1 v4 (.slice a6 E a8) K n1 n2 n3 n4 [])/\ak F (z+1) 30 (fU P a2 a5 a4 (.slice a1 E a3) N H G J M [])):=O (by rw[<-hV];exact⟨a0.1.trans (FB _ _).drew,a0.2.1.drew,a0.2.2.drew⟩);have d9:Hid ([K,n1,n2,n3,n4].length=5/\∀v∈ [K,n1,n2,n3,n4],v.oneCell'=true):=O ⟨rfl,fun v hv=>by
  simp only[FQ,FO,or_false]at hv;rcases hv with h|h|h|h|h
  .rw[h];exact fy X.nv
  .rw[h];exact fy X.na
  .rw[h];exact fy X.nm
  .rw[h];exact fy X.nc
  .rw[h];exact fy X.nh⟩
 have e4:Hid ([N,H,G,J,M].length=5/\∀v∈ [N,H,G,J,M],v.oneCell'=true):=O ⟨rfl,fun v hv=>by
  simp only[FQ,FO,or_false]at hv;rcases hv with h|h|h|h|h
  .rw[h];exact fy Y.nv
  .rw[h];exact fy Y.na
  .rw[h];exact fy Y.nm
  .rw[h];exact fy Y.nc
  .rw[h];exact fy Y.nh⟩
 have d7:Hid (F.rangeAt z 8 [K,n1,n2,n3,n4]/\F.rangeAt (z+1) 8 [N,H,G,J,M]):=O ⟨ak.range (pre:=[v0,v1,I P.CT,I P.conds,v4,.slice a6 E a8,I P.main,I P.stmts]) (mid:=[K,n1,n2,n3,n4]) (post:=[]) i5.2.1 rfl,ak.range (pre:=[a2,a5,I P.CT,I P.conds,a4,.slice a1 E a3,I P.main,I P.stmts]) (mid:=[N,H,G,J,M]) (post:=[]) i5.2.2 rfl⟩;clear a0;go_wp2_with fail;apply al [] (fun W'=>FM F.1.size F W') d0;rw[hV];clear hV;have Z:Hid (FM F.1.size F F):=O (FB _ _);refine fa 0 ?_;refine tl 1 68 Z 28 67 z 8 [K,n1,n2,n3,n4] d3 (fun W hS=>fun j u hu=>ai hS _ _ _ (d7.1 j u hu)) e6 d6 iH ?_;refine fa 2 ?_;refine tl 3 70 Z 28 69 (z+1) 8 [N,H,G,J,M] d3 (fun W hS=>fun j u hu=>ai hS _ _ _ (d7.2 j u hu)) e6 d6 iH ?_
 refine nm ?_;refine cj [4,5] (by kernel_rfl) ?_ (by decide);intro i hi;simp only[FQ,FO,or_false]at hi;rcases hi with rfl|rfl
 .refine⟨_,rfl,rfl,fun C D=>?_⟩;obtain⟨S,f8⟩:=eX F.1.size;refine aw b4 b8 b5 rfl S f8 ?_;intro X1 A g h8;have b9:=O (Z.trans (g.mono Z.size));have g7:=O A;have e8:Hid (F.1.size<=S/\S<X1.1.size):=O ⟨by have:=Z.size;omega,A.lt⟩;change C (Gf _ (some 5) _) X1;apply D _ _ (fun _=>b9);clear D C A g;refine nm ?_;refine oD 5 fun C D=>?_;obtain⟨U,f4⟩:=eX X1.1.size;refine aw b4 b8 b5 rfl U f4 ?_;intro X2 A g i0;have e1:=O (b9.trans (g.mono b9.size));have f5:=O A;have g8:Hid (F.1.size<=U/\U<X2.1.size):=O ⟨by have:=b9.size;omega,A.lt⟩;have f0:=O (g7.below g);have e0:Hid (S≠U):=O (by have h1:=e8.2;omega);change C (Gf _ (some 6) _) X2;apply D _ _ (fun _=>e1);clear D C A g;refine nm ?_;refine oD 6 fun C D=>?_
  refine an iH (.tmp 5) (.tmp 68) rfl S [K,n1,n2,n3,n4] _ rfl rfl f0 rfl d9 ?_;intro X3 A R;have d5:=O (R.below e8.1 e1);have g6:=O A;have h3:=O (R.CV (by have:=e0.o;omega) f5);change C (Gf _ none _) X3;apply D _ _ (fun _=>d5);clear D C A R;refine oD 7 fun C D=>?_;refine an iH (.tmp 6) (.tmp 70) rfl U [N,H,G,J,M] _ rfl rfl h3 rfl e4 ?_;intro X4 A R;have a9:=O (R.below g8.1 d5);have g9:=O A;have h6:=O (R.CV (by have:=e0.o;omega) g6);change C (Gf _ none _) X4;apply D _ _ (fun _=>a9);clear D C A R;try simp only[Gf]
  refine dn ?_;have c8:Hid (FM w.1.size w X4/\(ak X4 z 30 (fU P v0 v1 v4 (.slice a6 E a8) K n1 n2 n3 n4 [])/\ak X4 (z+1) 30 (fU P a2 a5 a4 (.slice a1 E a3) N H G J M []))/\ak X4 S 28 [K,n1,n2,n3,n4]/\ak X4 U 28 [N,H,G,J,M]):=O ⟨i5.1.trans (a9.mono i5.1.size),⟨i5.2.1.below a9,i5.2.2.below a9⟩,h6,g9⟩;go_wp2;apply i4;clear i4 KK;exact lG d0 HN e3 X Y c8
 .refine⟨_,rfl,rfl,fun C D=>?_⟩;obtain⟨U,h5⟩:=eX F.1.size;refine aw b4 b8 b5 rfl U h5 ?_;intro X5 A g h9;have b7:=O (Z.trans (g.mono Z.size));have f6:=O A;have d8:Hid (F.1.size<=U/\U<X5.1.size):=O ⟨by have:=Z.size;omega,A.lt⟩;change C (Gf _ (some 6) _) X5;apply D _ _ (fun _=>b7);clear D C A g;refine nm ?_;refine oD 4 fun C D=>?_;obtain⟨S,f7⟩:=eX X5.1.size;refine aw b4 b8 b5 rfl S f7 ?_;intro X6 A g i3;have e5:=O (b7.trans (g.mono b7.size));have h0:=O A;have g4:Hid (F.1.size<=S/\S<X6.1.size):=O ⟨by have:=b7.size;omega,A.lt⟩;have f9:=O (f6.below g);have e7:Hid (S≠U):=O (by have h1:=d8.2;omega);change C (Gf _ (some 5) _) X6;apply D _ _ (fun _=>e5);clear D C A g;refine nm ?_;refine oD 6 fun C D=>?_
  refine an iH (.tmp 5) (.tmp 68) rfl S [K,n1,n2,n3,n4] _ rfl rfl h0 rfl d9 ?_;intro X7 A R;have d4:=O (R.below g4.1 e5);have g5:=O A;have f1:=O (R.CV (by have:=e7.o;omega) f9);change C (Gf _ none _) X7;apply D _ _ (fun _=>d4);clear D C A R;refine oD 7 fun C D=>?_;refine an iH (.tmp 6) (.tmp 70) rfl U [N,H,G,J,M] _ rfl rfl f1 rfl e4 ?_;intro X8 A R;have b6:=O (R.below d8.1 d4);have h4:=O A;have g3:=O (R.CV (by have:=e7.o;omega) g5);change C (Gf _ none _) X8;apply D _ _ (fun _=>b6);clear D C A R;try simp only[Gf]
  refine dn ?_;have c8:Hid (FM w.1.size w X8/\(ak X8 z 30 (fU P v0 v1 v4 (.slice a6 E a8) K n1 n2 n3 n4 [])/\ak X8 (z+1) 30 (fU P a2 a5 a4 (.slice a1 E a3) N H G J M []))/\ak X8 S 28 [K,n1,n2,n3,n4]/\ak X8 U 28 [N,H,G,J,M]):=O ⟨i5.1.trans (b6.mono i5.1.size),⟨i5.2.1.below b6,i5.2.2.below b6⟩,g3,h4⟩;go_wp2;apply i4;clear i4 KK;exact lG d0 HN e3 X Y c8
structure Wn (w:Fk):Prop where
 o:hR w
 h:oA w
 e:gc w
theorem Wn.below{w':Fk}(h:Wn w)(g:bL w w'):Wn w':=⟨h.o.below g,h.h.below g,h.e.below g h.e.1⟩
theorem ja(s:ByteArray)(w:Fk)(H:Wn w):Jq prog 10 #[.string s] w (lh w (eC pQ s)):=
 qU ah s w H.e H.o fun W a cap j g hd=>lP _ a cap W g (H.below j).h hd (jH (et s))
theorem eh(w:Fk)(H:Wn w):Jq prog 9 #[] w (sk w):=by
 obtain⟨e4,e5,d3,d1,d2⟩:=hJ;obtain⟨e3,e1,a9,b5,b6⟩:=hG;have HW:=O H;clear H;have a7:=ja AY w HW.o;rw[BI]at a7;go_enter func9,ntmps9;refine wk fun Y D=>?_;go_wp2_with fail;refine D.o _ _ ?_;clear D Y;refine wk fun Y D=>?_;go_wp2_with fail;refine a7.mono ?_;clear a7;rintro e W1 ⟨⟨F,rfl,M⟩,J⟩;have a8:=O J;have b4:=O M;have d9:=O M.cells;clear J M;obtain⟨b1,c9⟩:∃b,W1.1.size=b:=⟨_,z⟩;go_wp2_with (first
  | ((with_reducible refine cp 1 (.alloc 30) ?_);refine ag d3 d1 d2 z z b1 c9 ?_;intro W2 U b2 s2;have X:=O U;have G:=O b2;clear U b2)
  | ((with_reducible refine cp 2 (.alloc 32) ?_);refine ag a9 b5 b6 z z (b1+1) s2 ?_;intro W3 k3 b3 s3;have Z:=O k3;have K:=O b3;clear k3 b3)
  | ((with_reducible refine cY (.store 30 (.tmp 1) _) ?_);refine af bN z (.tmp 1) (.tmp 9) z b1 F _ z z (X.o.below K.o) z d9.o ?_;intro W4 k4 c4;have C:=O (EQ k4 c4);clear k4 c4)
  | ((with_reducible refine cY (.store 32 (.tmp 2) _) ?_);refine af br z (.tmp 2) (.tmp 10) z (b1+1) [.int .i64 (cW mZ).2.1.1,.int .i64 (cW mZ).2.1.2] _ z z (C.o.2.CV (by omega) Z.o) z (cl _ _) ?_;intro W k5 c5;have E:=O (EQ k5 c5);clear k5 c5)
  |fail)
 refine D.o _ _ ?_;clear D Y;have a3:Hid (FM W1.1.size W1 W):=O (E.o.2.below (by omega) (C.o.2.below (by omega) (G.o.trans (K.o.mono G.o.size))));have N:Hid (FM w.1.size w W/\ak W b1 30 F/\ei (fun _=>True) W (cW mZ).1 F):=O ⟨a8.o.trans (a3.o.mono a8.o.size),E.o.2.CV (by omega) C.o.1,(b4.o.keep fun b o u _ S=>ai a3.o b o u S).CQ fun _ _=>trivial⟩;clear X G Z K C E a3 b4 a8 s2 s3 c9;have a4:=ja AW W (HW.o.below N.o.1);rw[BH]at a4;refine wk fun Y D=>?_;go_wp2_with fail;refine a4.mono ?_;clear a4;rintro e R ⟨⟨d7,rfl,M⟩,J⟩;have V:Hid (FM w.1.size w R/\ak R b1 30 F/\ei (fun _=>True) R (cW mZ).1 F):=O ⟨N.o.1.trans (J.mono N.o.1.size),N.o.2.1.below J,N.o.2.2.keep fun b o u _ S=>ai J b o u S⟩
 have d6:=O M.cells;clear J M N;obtain⟨b2,d0⟩:∃b,R.1.size=b:=⟨_,z⟩;go_wp2_with (first
  | ((with_reducible refine cp 4 (.alloc 30) ?_);refine ag d3 d1 d2 z z b2 d0 ?_;intro W7 U b2 s2;have X:=O U;have G:=O b2;clear U b2)
  | ((with_reducible refine cp 5 (.alloc 32) ?_);refine ag a9 b5 b6 z z (b2+1) s2 ?_;intro W8 k3 b3 s3;have Z:=O k3;have K:=O b3;clear k3 b3)
  | ((with_reducible refine cY (.store 30 (.tmp 4) _) ?_);refine af bN z (.tmp 4) (.tmp 14) z b2 d7 _ z z (X.o.below K.o) z d6.o ?_;intro W9 k4 c4;have C:=O (EQ k4 c4);clear k4 c4)
  | ((with_reducible refine cY (.store 32 (.tmp 5) _) ?_);refine af br z (.tmp 5) (.tmp 15) z (b2+1) [.int .i64 1,.int .i64 15] _ z z (C.o.2.CV (by omega) Z.o) z (cl _ _) ?_;intro A k5 c5;have E:=O (EQ k5 c5);clear k5 c5)
  |fail)
 refine D.o _ _ ?_;clear D Y;have a1:Hid (FM R.1.size R A):=O (E.o.2.below (by omega) (C.o.2.below (by omega) (G.o.trans (K.o.mono G.o.size))));have Q:Hid (FM w.1.size w A/\ak A b1 30 F/\ei (fun _=>True) A (cW mZ).1 F):=O ⟨V.o.1.trans (a1.o.mono V.o.1.size),V.o.2.1.below a1.o,V.o.2.2.keep fun b o u _ S=>ai a1.o b o u S⟩;have HQ:=O E.o.1;clear X G Z K C E a1 V s2 s3 d0;obtain⟨v0,v1,v4,v5,n0,n1,n2,n3,n4,a2,a6⟩:=Q.o.2.2;obtain⟨a0,c0,b8,-,-⟩:=id a6.vars;obtain⟨a5,c5,b9,-,c8⟩:=id a6.threads;have d5:∃t,(cW mZ).1.threads[0]? =some t/\t.locals=1:=by
  have j:=ua.2.2.2;cases hq:(cW mZ).1.threads with
  |nil=>rw[hq]at j;cases j
  |cons t r=> rw[hq]at j;simp only[List.map_cons,List.cons.injEq]at j;exact⟨t,z,j.1⟩
 have b7:(cW mZ).1.threads.length=1:=by have j:=congrArg List.length ua.2.2.2;simpa using j
 obtain⟨t,ht,d4⟩:=d5;obtain⟨g,of,cs,rfl,-,hr,d8⟩:=c8 0 t ht;obtain⟨xa,xc,rfl,-,-⟩:=d8;rw[ua.2.2.1]at b8;rw[b7]at b9;subst b8 b9;have p7:A.cell? ⟨b1,7,none⟩=some (.int .i64 3):=(Q.o.2.1.cell 7).trans (by rw[a2];exact congrArg (fun n:Nat=>some (Gr .i64 (n:Int))) ua.2.1);have p0:A.cell? ⟨b1,0,none⟩=some (.slice a0 1 c0):=(Q.o.2.1.cell 0).trans (by rw[a2];rfl);have p5:A.cell? ⟨b1,5,none⟩=some (.slice (some ⟨g,of,none⟩) 1 c5):=(Q.o.2.1.cell 5).trans (by rw[a2];rfl);have e2:A.cell? ⟨g,of+1,none⟩=some (.int .i64 1):=by have j:=hr 1 _ z;rw[d4]at j;simpa using j
 have q0:A.cell? ⟨b2+1,0,none⟩=some (.int .i64 1):=HQ.o.cell 0;have q1:A.cell? ⟨b2+1,1,none⟩=some (.int .i64 15):=HQ.o.cell 1;have e0:(cW mZ).2.2=0:=by rw[ua.1]
 have HE:=O Q.o.1;clear a2 a6 c8 b7 ht d4 hr Q;try simp only[e0]
 go_wp2_with fail;go_ret;exact⟨z,HE.o⟩
theorem za{l:List De}{cap:Nat}(H:Wn W)(g:aF l.length cap)(hd:cQ (fun _=>True) W a l)(C:∀d∈l,d.nb):Jq prog 14 #[.slice a l.length cap] W (lh W (pQ l)):=
 lV (nmf:=ah) l a cap W g hd fun A j=>lP l a cap A g (H.below j).h (hd.keep fun b o u _ w=>ai j b o u w) C
theorem yo{l:List De}{cap:Nat}(j:aF l.length cap)(hd:cQ (fun _=>True) W a l)(C:∀d∈l,d.nb)(D:∀d∈l,St.cls d.body):Jq prog 15 #[.slice a l.length cap] W (lh W (pQ l)):=by
 have h:=lQ ah l a cap W j hd fun A E=>kp l a cap A j (hd.keep fun b o u _ w=>ai E b o u w) C;unfold pQ;split
 .rename_i g;rwa [aD g,nZ g D]at h
 .rename_i g;rwa [am g]at h
theorem wF{l k:List De}{o:Nat}{cs:List Fr}{p q:Nat}(Z:p<l.length)(_:q<k.length)(h:dN (fun c=>c<n) W (some (ad g o)) l)(_:cQ (fun c=>n<=c) W a0 k)
  (S:g<n)(N:fS (fun c=>n<=c) W cs (k.getD q default))(_:cs.length=6)(J:∀t v,cs[t]? =some v->w.cell? (ad g (o+p*6+t))=some v)(C:∀c j v,(c≠g∨j<o+p*6∨o+p*6+6<=j)->W.cell? (ad c j)=some v->w.cell? (ad c j)=some v):
  cQ (fun _=>True) w (some (ad g o)) (l.set p (k.getD q default)):=fun j F=>by
 rw[Hs]at F;obtain⟨b,Y,H,M,V,K,G,-⟩:=h j F;cases M;by_cases D:j=p
 .subst D;refine⟨g,o,cs,z,trivial,J,?_⟩;rw[FD,List.getElem?_set_self (by omega)];exact fS.CQ (fun _ _=>trivial) (N.keep fun c i v E A=>C c i v (.inl (by omega)) A)
 .refine⟨g,o,H,z,trivial,fun t v A=>?_,?_⟩
  .have Q:t<6:=by have:=(FW.1 A).1;rw[G.cells.1]at this;exact this
   exact C g _ v (.inr (by omega)) (K t v A)
  .rw[FD,List.getElem?_set_ne (Ne.symm D),<-FD];exact fS.CQ (fun _ _=>trivial) (G.keep fun c i v E A=>C c i v (.inl E.2) A)
theorem dN.EO{l:List De}{B:Nat}(h:dN (B<=·) W a l)(A:bL W w):dN (fun c=>B<=c/\c<w.1.size) w a l:=dN.keep (fun c _ g=>A.block c g) fun j H=>by
 let ⟨b,J,cs,K,G,C,D,F⟩:=h j H
 have E:=World.block_lt_of_cell? W _ (C 0 _ (FC (by rw[D.cells.1];decide)));exact⟨b,J,cs,K,⟨G,FJ E A.size⟩,C,fS.CQ (fun c g=>⟨⟨g.1.1,FJ g.2 A.size⟩,g.1.2⟩) D.bound,F⟩
theorem tE(s t:ByteArray)(i:Int)(w:Fk)(H:Wn w):Jq prog 4 #[.string s,.string t,I i] w (sk w):=by
 obtain⟨m6,m7,j2,j0,j1⟩:=hJ;obtain⟨m5,m3,b6,b9,c9⟩:=hG;obtain⟨g7,i5,g6⟩:=eI;have R:=O H;clear H;have hk:=eh w R.o;have a7:=iX s w R.o.e R.o.o;have b8:=fun W (g:bL w W)=>iX t W (R.o.below g).e (R.o.below g).o;have e3:=O (EQ (et s) (kX s));have f6:=O (EQ (et t) (kX t));unfold sE at a7 b8;obtain⟨Z1,g4⟩:=eX (bh s);obtain⟨Z2,h0⟩:=eX (bh t);rw[g4]at a7 e3;simp only[h0]at b8 f6;clear g4 h0;obtain⟨m1,⟨x1,y1⟩,e1⟩:=Z1;obtain⟨m2,⟨x2,y2⟩,e2⟩:=Z2;have a8:=O b8;clear b8;go_in;refine wk fun C A=>?_;go_wp2_with fail;refine A.o _ _ ?_;clear A C;refine wk fun C A=>?_;obtain⟨n,hn⟩:∃n,s.size=n:=⟨_,z⟩;obtain⟨m,hm⟩:∃n,t.size=n:=⟨_,z⟩;by_cases h3:3000<n∨3000<m
 .have h4:(3000:Int)< (n:Int)∨¬ (3000:Int)< (n:Int)/\(3000:Int)< (m:Int):=by omega
  clear a7;rcases h4 with h4|h4;all_goals
   go_wp2_with fail;refine hk.mono ?_;rintro e W1 ⟨rfl,g⟩;have HE:=O g;clear g;go_wp2_with fail;go_ret;exact⟨z,HE.o⟩
 have h4:¬ (3000:Int)< (n:Int):=by omega
 have h5:¬ (3000:Int)< (m:Int):=by omega
 clear hk;go_wp2_with fail;refine A.o _ _ ?_;clear A C h4 h5 h3 hn hm;refine wk fun C A=>?_;go_wp2_with fail;refine a7.mono ?_;clear a7;rintro e W1 ⟨g,a1,g3,rfl,h8,i3⟩;have f8:=O g;have a4:=O (EQ h8 i3);clear g h8 i3;obtain⟨S,b7⟩:∃n,m1.length=n:=⟨_,z⟩;try simp only[b7]
 have f4:=O b7;have j7:=O fun _:True=> (show aF S g3 by rw[<-b7];exact a4.o.1);clear b7;go_wp2_with (first
  | (with_reducible refine cp 8 (.alloc 32) ?_;refine ag b6 b9 c9 z z W1.1.size z ?_;intro W2 G b2 s2;have J:=O G;have F:=O b2;clear G b2 s2)
  | (with_reducible refine s0 32 ?_;refine af br z (.tmp 8) (.tmp 32) z W1.1.size [I x1,I y1] _ z z J.o z (cl _ _) ?_;intro W3 k3 c3;have D:=O (c3.below rl F.o);clear k3 c3))
 refine A.o _ _ ?_;clear A C J F;have d1:=O (f8.o.trans (D.o.mono f8.o.size));have g5:=O ((dN.CQ (ok':=fun c=>w.1.size<=c/\c<W3.1.size) (fun c X=>X) (dN.EO a4.o.2 D.o)));clear a4 f8 D;refine wk fun C A=>?_;go_wp2_with fail;refine(a8.o W3 d1.o).mono ?_;clear a8;rintro e W4 ⟨g,a2,m4,rfl,g9,i7⟩;have d4:=O g;have j3:=O (EQ g9 i7);clear g g9 i7;obtain⟨N2,f5⟩:=eX (m2.length);try simp only[f5]
 have f7:=O f5;clear f5;go_wp2_with (first
  | (with_reducible refine cp 11 (.alloc 32) ?_;refine ag b6 b9 c9 z z W4.1.size z ?_;intro W5 G b2 s2;have J:=O G;have F:=O b2;clear G b2 s2)
  | (with_reducible refine s0 32 ?_;refine af br z (.tmp 11) (.tmp 38) z W4.1.size [I x2,I y2] _ z z J.o z (cl _ _) ?_;intro W6 k3 c3;have D:=O (c3.below rl F.o);clear k3 c3))
 refine A.o _ _ ?_;clear A C J F;have j6:=d4.o.size;have e5:=O (d4.o.trans (D.o.mono d4.o.size));have a9:=O (d1.o.trans (e5.o.mono d1.o.size));have a4:=O (dN.keep (fun c _ X=>e5.o.block c X) g5.o);have i0:=O (cQ.keep (fun b o u _ E=>ai D.o b o u E) j3.o.2.Fa);clear d4 D g5 j3 j6 d1 e5;refine wk fun C A=>?_;go_wp2_with fail;all_goals first
  | (refine(eh W6 (R.o.below a9.o)).mono ?_
     rintro e W7 ⟨rfl,g⟩;have HE:=O (a9.o.trans (g.mono a9.o.size));clear g;go_wp2_with fail;go_ret;exact⟨z,HE.o⟩)
  |skip
 rename_i j5 k7 l9 l6 h2;have e4:0<=i:=h2.2;clear h2;subst j5 k7;refine A.o _ _ ?_;clear A C;refine wk fun C A=>?_;have l8:prog.follows .mixedOrders=true:=by kernel_rfl
 obtain⟨l4,k6,k0⟩:=lb;obtain⟨p,N⟩:∃p:Nat,i.tmod S=p:=⟨(i.tmod S).toNat,(Int.toNat_of_nonneg (Int.tmod_nonneg _ e4)).symm⟩;obtain⟨q,hq⟩:∃q:Nat,i.tmod N2=q:=⟨(i.tmod N2).toNat,(Int.toNat_of_nonneg (Int.tmod_nonneg _ e4)).symm⟩;have e7:p<S:=by have:=Int.tmod_lt_of_pos i (show (0:Int)<S by omega);omega
 have d0:q<N2:=by have:=Int.tmod_lt_of_pos i (show (0:Int)<N2 by omega);omega
 obtain⟨g1,hV⟩:=eX (W6.drew);have d5:bL W6 g1:=by rw[<-hV];exact(FB _ W6).drew
 have f2:=O (dN.keep (fun c _ X=>d5.block c X) a4.o);have e9:=O (cQ.keep (fun b o u _ E=>ai d5 b o u E) i0.o);have l3:=O (a9.o.trans (d5.mono a9.o.size));clear d5 a4 i0;obtain⟨Z,o1,k9,rfl,h9,i8,h1,h7⟩:=f2.o p (by rw[f4.o];exact e7);obtain⟨g2,o2,a6,rfl,m0,h6,f0⟩:=e9.o q (by rw[f7.o];exact d0);have K:=O (EQ h9 (EQ f0 (EQ f0.cells (show g1.there Z (o1+p*6) 6 from fun j hj=>⟨World.rangeAt.isSome (show g1.rangeAt Z (o1+p*6) k9 from i8) j (by rw[h1.cells.1];exact hj),h7 _⟩))));have HS:Hid (g1.rangeAt g2 (o2+q*6) a6):=O h6;clear h9 m0 h7 i8 h6 f0 h1;go_wp2_with fail;have l7:(p:Int)< (S:Int):=by omega
 have l2:(q:Int)< (N2:Int):=by omega
 have l5:((S:Int)==0)=false:=by simp;omega
 have j9:((N2:Int)==0)=false:=by simp;omega
 refine al [13] (fun W=>W.rangeAt g2 (o2+q*6) a6) l8 ?_;rw[hV];clear hV;refine tK4 0 ?_;refine nm ?_;refine fa 4 ?_;refine tK4 5 ?_;refine nm ?_;refine nk 9 ?_;refine tl 11 72 HS 46 71 g2 (o2+q*6) a6 l4 (fun _ h=>h) k6 k0 (by rw[K.o.2.2.1.1];exact eH) ?_;refine fa 12 ?_;refine nm ?_;refine oD 13 fun k1 hK=>?_;refine wp_store_mid 46 (.tmp 73) (.tmp 72) z Z (o1+p*6) a6.toArray z z (by rw[Hh,K.o.2.2.1.1];exact K.o.2.2.2) (by rw[Hh,K.o.2.2.1.1];exact eH) (all_oneCell_toArray K.o.2.2.1.2) ?_;obtain⟨W7,b5⟩:=eX (g1.setCells Z (o1+p*6) a6.toArray.toList);have Y:a6.length=6:=K.o.2.2.1.1;have c7:Ch Z g1 W7:=⟨_,_,b5.symm⟩
 have f9:Hid (cQ (fun _=>True) W7 (some ⟨Z,o1,none⟩) (m1.set p (m2.getD q default))):=O (by
  refine wF (n:=W3.1.size) (by rw[f4.o];exact e7) (by rw[f7.o];exact d0) (f2.o.CQ fun c X=>X.2) e9.o K.o.1.2 K.o.2.1 Y (fun t v hv=>?_) fun c j v X hv=>?_
  .rw[<-b5];exact World.rangeAt_setCells_same _ _ _ _ (by rw[Y];exact K.o.2.2.2) t v hv
  .rw[<-b5];exact World.rangeAt_setCells_apart (cs:=[v]) (b':=c) (o':=j) (fun t u E=>by cases t with|zero=>cases E;exact hv|succ t=>cases E) Z (o1+p*6) _ (by rw[Y];simp only[List.length_singleton];omega) 0 v z)
 rw[b5];have d7:=O (c7.below K.o.1.1 l3.o);clear b5 c7 Y f2 e9;refine hK _ _ (fun h=>by cases h) ?_;clear hK k1;refine nm ?_;refine dn ?_;refine A.o _ _ ?_;clear A C HS K;obtain⟨L,hL⟩:=eX (m1.set p (m2.getD q default));have d2:L.length=S:=by rw[<-hL,Hs];exact f4.o
 have d9:∀d∈L,d∈m1∨d∈m2:=fun d hd=>by
  rw[<-hL]at hd;rcases List.mem_or_eq_of_mem_set hd with h|h
  .exact .inl h
  .right;rw[h,FD,FC (by rw[f7.o];exact d0)];exact Gy _
 have d8:∀d∈L,d.nb:=fun d hd=> (d9 d hd).elim (jH e3.o.1 d) (jH f6.o.1 d);have Y:∀d∈L,St.cls d.body:=fun d hd=> (d9 d hd).elim (e3.o.2 d) (f6.o.2 d);have d6:=f9.o;rw[hL]at d6;have e8:aF L.length g3:=by rw[d2];exact j7.o trivial
 have j4:=O d6;have hf:=za (R.o.below d7.o) e8 d6 d8;have f1:=fun W' (g:bL W7 W')=>yo (W:=W') e8 (cQ.keep (fun b o u _ E=>ai g b o u E) j4.o) d8 Y;obtain⟨a0,hZ⟩:=eX (pQ L);rw[d2,hZ]at hf;simp only[d2,hZ]at f1;obtain⟨Pr,⟨pl,pc⟩,er⟩:=a0;have i4:=O f1;clear f1 hZ e8 d6 Y d8 d9 d2 hL f9 j4 N hq e7 d0 l7 l2 l5 j9 l9 l6 e4;refine wk fun C A=>?_;go_wp2_with fail;refine hf.mono ?_;clear hf;rintro e U1 ⟨⟨a5,rfl,N⟩,g⟩;have a3:=O g;have g8:=O N;have i1:=O N.cells;clear g N;obtain⟨b1,i6⟩:=eX (U1.1.size);go_wp2_with (first
  | (with_reducible refine cp 13 (.alloc 30) ?_;refine ag j2 j0 j1 z z b1 i6 ?_;intro U2 G b2 s2;have J:=O G;have F:=O b2;clear G b2)
  | (with_reducible refine cp 14 (.alloc 32) ?_;refine ag b6 b9 c9 z z (b1+1) s2 ?_;intro U3 k3 b3 s3;have K3:=O k3;have D:=O b3;clear k3 b3)
  | (with_reducible refine s1 30 13 ?_;refine af bN z (.tmp 13) (.tmp 77) z b1 a5 _ z z (J.o.below D.o) z i1.o ?_;intro U4 k4 c4;have Q:=O (EQ k4 c4);clear k4 c4)
  | (with_reducible refine s1 32 14 ?_;refine af br z (.tmp 14) (.tmp 78) z (b1+1) [I pl,I pc] _ z z (Q.o.2.CV (by omega) K3.o) z (cl _ _) ?_;intro U5 k5 c5;have M:=O (EQ k5 c5);clear k5 c5))
 refine A.o _ _ ?_;clear A C;have e6:Hid (FM U1.1.size U1 U5):=O (M.o.2.below (by omega) (Q.o.2.below (by omega) (F.o.trans (D.o.mono F.o.size))));have f3:=O (a3.o.trans (e6.o.mono a3.o.size));have H1:Hid (bL w U5/\ak U5 b1 30 a5/\ak U5 (b1+1) 32 [I pl,I pc]/\ei (fun _=>True) U5 Pr a5):=O ⟨d7.o.trans (f3.o.mono d7.o.size),M.o.2.CV (by omega) Q.o.1,M.o.1,(g8.o.keep fun b o u _ E=>ai e6.o b o u E).CQ fun _ _=>trivial⟩;clear J F K3 D Q M e6 g8 a3 s2 s3 i6;refine wk fun C A=>?_;go_wp2_with fail;refine(i4.o U5 f3.o).mono ?_;rintro e U6 ⟨⟨d3,rfl,N⟩,g⟩;have a3:=O g;have a8:=O N;have i2:=O N.cells;clear g N;obtain⟨b2,i9⟩:=eX (U6.1.size);go_wp2_with (first
  | (with_reducible refine cp 16 (.alloc 30) ?_;refine ag j2 j0 j1 z z b2 i9 ?_;intro U7 G b2 s2;have J:=O G;have F:=O b2;clear G b2)
  | (with_reducible refine cp 17 (.alloc 32) ?_;refine ag b6 b9 c9 z z (b2+1) s2 ?_;intro U8 k3 b3 s3;have K3:=O k3;have D:=O b3;clear k3 b3)
  | (with_reducible refine s1 30 16 ?_;refine af bN z (.tmp 16) (.tmp 83) z b2 d3 _ z z (J.o.below D.o) z i2.o ?_;intro U9 k4 c4;have Q:=O (EQ k4 c4);clear k4 c4)
  | (with_reducible refine s1 32 17 ?_;refine af br z (.tmp 17) (.tmp 84) z (b2+1) [I pl,I pc] _ z z (Q.o.2.CV (by omega) K3.o) z (cl _ _) ?_;intro U k5 c5;have M:=O (EQ k5 c5);clear k5 c5))
 refine A.o _ _ ?_;clear A C;have e0:Hid (FM U6.1.size U6 U):=O (M.2.below (by omega) (Q.2.below (by omega) (F.trans (D.mono F.size))));have b4:=O (a3.trans (e0.mono a3.size));have V:Hid (bL w U/\ak U b2 30 d3/\ak U (b2+1) 32 [I pl,I pc]/\ei (fun _=>True) U Pr d3):=O ⟨H1.1.trans (b4.mono H1.1.size),M.2.CV (by omega) Q.1,M.1,(a8.keep fun b o u _ E=>ai e0 b o u E).CQ fun _ _=>trivial⟩;have HX:Hid (ak U b1 30 a5/\ak U (b1+1) 32 [I pl,I pc]/\ei (fun _=>True) U Pr a5):=O ⟨H1.2.1.below b4,H1.2.2.1.below b4,H1.2.2.2.keep fun b o u _ E=>ai b4 b o u E⟩;clear J F K3 D Q M e0 a8 a3 s2 s3 i9 H1 i4 b4 f3;have p0:=HX.o.2.1.cell 0;have p1:=HX.o.2.1.cell 1;have q0:=V.o.2.2.1.cell 0;have q1:=V.o.2.2.1.cell 1
 simp only[FE,FH]at p0 p1 q0 q1;go_wp2_with (first
  | (with_reducible refine l1 95 30 ?_;refine aS z 30 (.tmp 13) z b1 0 z a5 g7 HX.o.1.whole i5 g6 (by rw[i1.o.1];exact bN) ?_)
  | (with_reducible refine l1 96 30 ?_;refine aS z 30 (.tmp 16) z b2 0 z d3 g7 V.o.2.1.whole i5 g6 (by rw[i2.o.1];exact bN) ?_))
 refine(np Pr HX.o.2.2 V.o.2.2.2).mono ?_;clear p0 p1 q0 q1;rintro e j8 ⟨rfl,g⟩;have c8:=O (V.o.1.trans (g.mono V.o.1.size));clear g HX V;go_wp2_with fail;apply (eh j8 (R.below c8)).mono;rintro e m8 ⟨rfl,g⟩;have k8:=O (c8.trans (g.mono c8.size));clear g c8;go_wp2;go_ret;exact⟨z,k8⟩
end Go.Proofs.YtgppcdfgdaggjaaGreatDoor
