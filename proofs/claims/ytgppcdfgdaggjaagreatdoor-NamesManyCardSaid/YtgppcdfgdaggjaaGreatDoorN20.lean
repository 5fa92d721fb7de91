/- Texts laid together. No condition but what each law says. -/
import Derived.Test.YtgppcdfgdaggjaaGreatDoorN19
set_option maxRecDepth 100000
set_option maxHeartbeats 8000000
namespace Go.Proofs.YtgppcdfgdaggjaaGreatDoor
open Go.RowKit Go.Maps Go.Proofs.Tryz
open Option renaming map_eq_some_iff→Ga,isSome_iff_exists→IX,getD_some→HS
open Go renaming Value→Fr,World→Fk,Ending→GP,Calls→Jq,bodyPost→Gb,TypeId→GA,undef→Gm,wpList_load_mid→Gn
open List renaming mem_append→GG,mem_cons→FQ,not_mem_nil→FO,getElem?_eq_getElem→FC,getElem?_set_ne→Ge,drop_length→Hn,getD_eq_getElem?_getD→FD,find?_eq_none→Hb,map_append→IM,mem_map→HM,length_eq_zero_iff→Hf
open Go.RowKit renaming Below→FM
open Nat renaming lt_of_lt_of_le→FJ,le_refl→FL,le_trans→FU,zero_le→FX
open Go.Act renaming put→Gf
open And renaming intro→EQ
open Go.RowKit.Below renaming refl→FB
open Go.Code renaming wp→FR
open Go.World renaming setCell→Gc,cell?→FI
open Go.Value renaming int→Gr,ownBlock→GF,slice→Gd
open Bool renaming false_eq_true→FN,and_eq_true→FG
variable {l l2 l3 l4:List Fr}{s s6 t:ByteArray}{a a0 a1:Option Addr}{b g i j n n0 n2 n5:Nat}{D D0:DF}{V W w w0:Fk}{v v0 v1 v2 v3 v4:Fr}{A:Act}{N:List Nm}
theorem hj:∃d,prog.underlying 60=some d/\d.isRow=true:=by
 have h:(prog.underlying 60).map (·.isRow)=some true:=by kernel_rfl
 let ⟨d,j,g⟩:=Ga.1 h
 exact⟨d,j,g⟩
def yi:List Fr:=[.int .i64 0,.int .i64 0,.int .i64 0,.string ⟨#[]⟩,.string ⟨#[]⟩,.int .i64 0,.int .i64 0,.string ⟨#[]⟩,.int .i64 0,.bool false,.int .i64 0,.slice none 0 0,.int .i64 0,.int .i64 0,.string ⟨#[]⟩,.int .i64 0,.bool false,.int .i64 0,.slice none 0 0,.slice none 0 0,.slice none 0 0,.int .i64 0,.int .i64 0,.int .i64 0,.bool false]
theorem ki:∃i z,prog.info? 60=some i/\i.zero=some z/\z.cells=yi.toArray:=fH (by kernel_rfl)
def cO(k l c:Int)(s t:ByteArray)(xc yc:List Fr)(bv ev:Fr)(id sl ot:Int)(lo:Bool):List Fr:= .int .i64 k:: .int .i64 l:: .int .i64 c:: .string s:: .string t::(xc++(yc++[bv,ev,.int .i64 id,.int .i64 sl,.int .i64 ot,.bool lo]))
theorem vO(h:l.length=7):∃a b c d e f g,l=[a,b,c,d,e,f,g]:=by rcases l with _|⟨a,_|⟨b,_|⟨c,_|⟨d,_|⟨e,_|⟨f,_|⟨g,_|⟨i,r⟩⟩⟩⟩⟩⟩⟩⟩;all_goals first|exact⟨_,_,_,_,_,_,_,z⟩|simp at h
theorem hk{k l c:Int}{cap:Nat}{id sl ot:Int}{lo:Bool}(w:l2.length=7/\∀v∈l2,v.oneCell'=true)(A:l3.length=7/\∀v∈l3,v.oneCell'=true):(cO k l c s t l2 l3 (.slice a n cap) (.slice a0 j g) id sl ot lo).length=25/\∀v∈cO k l c s t l2 l3 (.slice a n cap) (.slice a0 j g) id sl ot lo,v.oneCell'=true:=by refine⟨by simp[cO,w.1,A.1],fun v C=>?_⟩;simp only[cO,FQ,GG,FO,or_false]at C;rcases C with rfl|rfl|rfl|rfl|rfl|h|h|rfl|rfl|rfl|rfl|rfl|rfl;all_goals first|rfl|exact w.2 v h|exact A.2 v h
theorem bR{k l c:Int}{bv ev:Fr}{id sl ot:Int}{lo:Bool}{C:List Fr}(j:C=cO k l c s t l2 l3 bv ev id sl ot lo)(g:l2.length=7)(w:l3.length=7):C[0]? =some (I k)/\C[1]? =some (I l)/\C[2]? =some (I c)/\C[3]? =some (.string s)/\C[4]? =some (.string t)/\C[19]? =some bv/\C[20]? =some ev/\C[21]? =some (I id)/\C[22]? =some (I sl)/\C[23]? =some (I ot)/\C[24]? =some (.bool lo):=by obtain⟨G,F,K,J,H,E,A,rfl⟩:=vO g;obtain⟨b0,b1,b2,b3,M,D,N,rfl⟩:=vO w;subst j;exact⟨z,z,z,z,z,z,z,z,z,z,z⟩
section
variable {k l c:Int} {s t:ByteArray} {xc yc:List Fr} {bv ev:Fr} {id sl ot:Int} {lo:Bool}
theorem cC(g:xc.length=7)(j:yc.length=7)(v:Fr)(i:Int)(b:Bool):(cO k l c s t xc yc bv ev id sl ot lo).set 19 v=cO k l c s t xc yc v ev id sl ot lo/\(cO k l c s t xc yc bv ev id sl ot lo).set 20 v=cO k l c s t xc yc bv v id sl ot lo/\(cO k l c s t xc yc bv ev id sl ot lo).set 21 (I i)=cO k l c s t xc yc bv ev i sl ot lo/\(cO k l c s t xc yc bv ev id sl ot lo).set 22 (I i)=cO k l c s t xc yc bv ev id i ot lo/\(cO k l c s t xc yc bv ev id sl ot lo).set 23 (I i)=cO k l c s t xc yc bv ev id sl i lo/\(cO k l c s t xc yc bv ev id sl ot lo).set 24 (.bool b)=cO k l c s t xc yc bv ev id sl ot b:=by obtain⟨E,C,H,G,F,D,w,rfl⟩:=vO g;obtain⟨b0,b1,b2,b3,J,A,K,rfl⟩:=vO j;exact⟨z,z,z,z,z,z⟩
end
structure lp (w:Fk) (cs sc:List Fr) (W:Fk):Prop where
 b:FM w.1.size w W
 f:ak W w.1.size 109 cs
 s:ak W (w.1.size+1) 60 sc
 z:ak W (w.1.size+1+1) 109 nx
 y:ak W (w.1.size+1+1+1) 60 yi
def jp(ok:Nat->Prop)(w W:Fk)(c:Nat):Prop:=(ok c∨w.1.size+4<=c)/\c<W.1.size
section
variable {w W W':Fk} {cs cs' sc sc':List Fr}
theorem lp.below(h:lp w cs sc W)(g:bL W W'):lp w cs sc W':=⟨h.b.trans (g.mono h.b.size),h.f.below g,h.s.below g,h.z.below g,h.y.below g⟩
theorem lp.lt(h:lp w cs sc W):w.1.size+4<=W.1.size:=by have:=h.y.lt;omega
theorem lp.ch(h:lp w cs sc W)(j:w.1.size+4<=b)(g:Ch b W W'):lp w cs sc W':=⟨g.below (by omega) h.b,g.CV (by omega) h.f,g.CV (by omega) h.s,g.CV (by omega) h.z,g.CV (by omega) h.y⟩
theorem lp.Dc(h:lp w cs sc W)(j:ak W' w.1.size 109 cs')(g:Ch w.1.size W W'):lp w cs' sc W':=⟨g.below (by omega) h.b,j,g.CV (by omega) h.s,g.CV (by omega) h.z,g.CV (by omega) h.y⟩
theorem lp.Dw(h:lp w cs sc W)(j:ak W' (w.1.size+1) 60 sc')(g:Ch (w.1.size+1) W W'):lp w cs sc' W':=⟨g.below (by omega) h.b,g.CV (by omega) h.f,j,g.CV (by omega) h.z,g.CV (by omega) h.y⟩
theorem aG.tight{ok:Nat->Prop}(h:aG ok W D cs):aG (fun c=>ok c/\c<W.1.size) W D cs:=by
 have A:∀ {G:Type} {E:El G} {v:Fr} {l:List G},0<E.sz->Ro E ok W v l->Ro E (fun c=>ok c/\c<W.1.size) W v l:=fun {G E v l} h0 ⟨a,cap,F,g,C⟩=>⟨a,cap,F,g,fun j x N=>by
  let ⟨b,M,cs,X,Y,H,J⟩:=C j x N
  have hl:=(E.cells J).1;have U:=H 0 cs[0] (FC (by omega));exact⟨b,M,cs,X,⟨Y,World.block_lt_of_cell? W _ U⟩,H,E.bound J⟩⟩
 let ⟨Z,S,R,K,Q,n1,n2,n3,n4,V,F,g,C⟩:=h
 exact⟨Z,S,R,K,Q,n1,n2,n3,n4,V,F,⟨A (by decide) g.vars,A (by decide) g.CW,A (by decide) g.CX,A (by decide) g.threads,A (by decide) g.nv,A (by decide) g.na,A (by decide) g.nm,A (by decide) g.nc,A (by decide) g.nh⟩,A (by decide) C⟩
theorem eN{ok:Nat->Prop}(h:aG (jp ok w W) W D cs)(g:bL W W'):aG (jp ok w W') W' D cs:=(h.below g).CQ fun _ j=>⟨j.1,FJ j.2 g.size⟩
theorem bx{ok:Nat->Prop}(A:∀c,ok c->c<w.1.size)(h:aG (jp ok w W) W D cs)(g:Ch b W W')(E:w.1.size<=b)(C:b<w.1.size+4):aG (jp ok w W') W' D cs:=(g.df (fun e=>by
 rcases e.1 with e|e
 .have:=A _ e;omega
 .omega) h).CQ fun c j=>⟨j.1,by rw[g.size];exact j.2⟩
theorem Ch.Dz(h:Ch b W W'){cs:List Fr}{x:Ex}(g:ExL (w.1.size+4<=·) W cs x)(A:b<w.1.size+4):ExL (w.1.size+4<=·) W' cs x:=h.ex (fun c j=>by have C:w.1.size+4<=c:=j;omega) g
theorem Ch.Ew(h:Ch b W W'){l:List St}(g:aE (w.1.size+4<=·) W a 0 l)(C:b<w.1.size+4):aE (w.1.size+4<=·) W' a 0 l:=g.keep fun c o u A j=>by have D:=A;rw[h.cell (by omega)];exact j
theorem ExL.Do{ok:Nat->Prop}{cs:List Fr}{x:Ex}(g:ExL ok W cs x)(A:bL W W'):ExL ok W' cs x:=g.keep fun b o v _ j=>ai A b o v j
theorem aE.Do{ok:Nat->Prop}{l:List St}(g:aE ok W a 0 l)(A:bL W W'):aE ok W' a 0 l:=g.keep fun b o v _ j=>ai A b o v j
end
def zQ(ok:Nat->Prop)(w:Fk)(R:DF×List St)(e:GP)(w':Fk):Prop:=(∃ds a n cap,e= .returned (.tuple #[.agg ds.toArray,.slice a n cap])/\aG (fun c=>ok c∨w.1.size<=c) w' R.1 ds/\(R.1.CR=0->n=R.2.length/\aF n cap/\aE (w.1.size<=·) w' a 0 R.2))/\FM w.1.size w w'
def qR(l:List St):Prop:=∀ (ok:Nat->Prop) (D:DF) (cs:List Fr) (W:Fk) (a:Option Addr) (cap:Nat),(∀c,ok c->c<W.1.size)->aG ok W D cs->aF l.length cap->aE (fun _=>True) W a 0 l->hz D->Jq prog 42 #[.agg cs.toArray,.slice a l.length cap] W (zQ ok W (DF.CV l D))
def zF(ok:Nat->Prop)(w:Fk)(R:DF×St)(e:GP)(w':Fk):Prop:=(∃ds ss,e= .returned (.tuple #[.agg ds.toArray,.agg ss.toArray])/\aG (fun c=>ok c∨w.1.size<=c) w' R.1 ds/\(ss.length=25/\∀v∈ss,v.oneCell'=true)/\(R.1.CR=0->bX (w.1.size<=·) w' ss R.2))/\FM w.1.size w w'
theorem ss{l:List St}(h:(DF.CV l D).1.CR=0):D.CR=0:=by
 by_cases e:D.CR=0
 .exact e
 .have g:(DF.Dp l D).1.CR=0:=h;rw[ep e l]at g;exact g
theorem nE{ok:Nat->Prop}(hd:aG (fun c=>jp ok w W c∨W.1.size<=c) V D l2)(j:w.1.size+4<=W.1.size):aG (jp ok w V) V D l2:=hd.tight.CQ fun c g=>⟨by
 rcases g.1 with h|h
 .exact h.1
 .exact .inr (by omega),g.2⟩
theorem qb{ok:Nat->Prop}{cs:List Fr}{k l c:Int}{x y:Ex}{body els:List St}{id sl ot:Int}{lo:Bool}(a7:∀c,ok c->c<w.1.size)(hI:hz D)
  (Q:Hid (lp w cs (cO k l c s t l2 l3 (.slice a1 body.length g) (.slice a0 els.length j) id sl ot lo) W))(HD:Hid (aG (jp ok w W) W D cs))(HX:Hid (ExL (w.1.size+4<=·) W l2 x))(HY:Hid (ExL (w.1.size+4<=·) W l3 y))
  (HB:Hid (aF body.length g/\aE (fun _=>True) w a1 0 body))(HE:Hid (aF els.length j/\aE (fun _=>True) w a0 0 els))(IB:Hid (qR body))(IE:Hid (qR els)){R:DF×St}
  (HR:Hid (R=((DF.CV els (DF.CV body D).1).1,.mk k l c s t x y (DF.CV body D).2 (DF.CV els (DF.CV body D).1).2 id sl ot lo)))(hU:l4.length=172:=by rfl):
  FR prog (Jp 10 (f81.body.getD .skip)) (Gb prog f81 (zF ok w R)) ⟨(v0::v1::Pt w.1.size::Pt (w.1.size+1)::Pt (w.1.size+1+1)::Pt (w.1.size+1+1+1)::l4).toArray,[]⟩ W:=by
 revert l4;apply aN;iterate 172 intro _
 change FR _ _ _ _ _;obtain⟨du,b9,c9⟩:=cd;obtain⟨j4,j0,f1⟩:=hj;have a3:=O HX.o.cells;have a6:=O HY.o.cells;have h7:=O HD.o.cells;obtain⟨NB,f8⟩:∃n,body.length=n:=⟨_,z⟩;obtain⟨X,d8⟩:=eX (els.length);have d5:=IB.o (jp ok w W) D cs W a1 g (fun c J=>J.2) HD.o HB.o.1 (HB.o.2.Do Q.o.b) hI;rw[f8]at Q d5;rw[d8]at Q;have j9:=O d8;clear f8 d8;have M:=O (bR z a3.o.1 a6.o.1 (C:=cO k l c s t l2 l3 (.slice a1 NB g) (.slice a0 X j) id sl ot lo));have c19:W.cell? ⟨w.1.size+1,19,none⟩=some (.slice a1 NB g):=by rw[Q.o.s.cell];exact M.o.2.2.2.2.2.1
 obtain⟨⟨U,lb⟩,e6⟩:∃q,DF.CV body D=q:=⟨_,z⟩;rw[e6]at d5 HR;obtain⟨⟨D2,le⟩,b7⟩:∃q,DF.CV els U=q:=⟨_,z⟩;rw[b7]at HR;have h3:D2.CR=0->U.CR=0:=fun h=>ss (l:=els) (by rw[b7];exact h);have k6:=O h3;have k0:=O b7;have j5:Hid (hz U):=O (by have:=qz body hI;rw[e6]at this;exact this);clear e6 b7 h3 hI;conv in (Jp _ _)=>whnf
 refine wk fun KK a9=>?_;go_wp2_with (first| (with_reducible refine l0 109 ?_;refine ac b9 c9 aj z (.tmp 2) z w.1.size cs z (O Q.o.f) h7.o.1 ?_));refine d5.mono ?_;rintro e W1 ⟨⟨ds,A,n1,E,rfl,hd,S⟩,H⟩;have e1:=O (Q.o.below H);have h6:=O (HX.o.Do H);have g9:=O (HY.o.Do H);have j1:=O (nE hd Q.o.lt);have d4:Hid (U.CR=0->n1=lb.length/\aF n1 E/\aE (w.1.size+4<=·) W1 A 0 lb):=O fun h=>⟨(S h).1,(S h).2.1,(S h).2.2.CQ fun c J=>by have h1:W.1.size<=c:=J;have h2:=Q.o.lt;show w.1.size+4<=c;omega⟩;have e4:=O hd.cells;clear d5 hd S H Q HX HY HD c19 M;go_wp2_with (first
  | (with_reducible refine s0 109 ?_;refine af aj z (.tmp 2) (.tmp 165) z w.1.size ds _ z z e1.o.f h7.o.1 e4.o ?_;intro Y k2 c2;have b4:=O (e1.o.Dc k2 c2);have i4:=O (c2.Dz h6.o (by omega));have i5:=O (c2.Dz g9.o (by omega));have i1:=O (bx a7 j1.o c2 (by omega) (by omega));have d2:Hid (U.CR=0->n1=lb.length/\aF n1 E/\aE (w.1.size+4<=·) Y A 0 lb):=(O fun h=>⟨(d4.o h).1,(d4.o h).2.1,c2.Ew (d4.o h).2.2 (by omega)⟩);clear k2 c2 e1 h6 g9 j1 d4;have M:=O (bR z a3.o.1 a6.o.1 (C:=cO k l c s t l2 l3 (.slice a1 NB g) (.slice a0 X j) id sl ot lo));have c19:Y.cell? ⟨w.1.size+1,19,none⟩=some (.slice a1 NB g):=(by rw[b4.o.s.cell];exact M.o.2.2.2.2.2.1);have j8:=b4.o.s.frozen 19)
 )
 refine a9.o _ _ ?_;clear a9 KK c19 j8 M;have a8:=O ((cC (k:=k) (l:=l) (c:=c) (s:=s) (t:=t) (bv:= .slice a1 NB g) (ev:= .slice a0 X j) (id:=id) (sl:=sl) (ot:=ot) (lo:=lo) a3.o.1 a6.o.1 (.slice A n1 E) 0 false).1);have e2:=b4.o.Dw (b4.o.s.set1 19 (.slice A n1 E)) (Ch.one 19 _ Y);rw[a8.o]at e2;have h8:=bx a7 i1.o (Ch.one (b:=w.1.size+1) 19 (.slice A n1 E) Y) (by omega) (by omega);have f4:=(Ch.one (b:=w.1.size+1) 19 (.slice A n1 E) Y).Dz i4.o (by omega);have f9:=(Ch.one (b:=w.1.size+1) 19 (.slice A n1 E) Y).Dz i5.o (by omega)
 have f5:U.CR=0->n1=lb.length/\aF n1 E/\aE (w.1.size+4<=·) (Y.setCell ⟨w.1.size+1,19,none⟩ (.slice A n1 E)) A 0 lb:=fun h=>⟨(d2.o h).1,(d2.o h).2.1,(Ch.one (b:=w.1.size+1) 19 (.slice A n1 E) Y).Ew (d2.o h).2.2 (by omega)⟩;have a5:=O e2;have f0:=O h8;have f2:=O f4;have g7:=O f9;have b8:=O f5;clear e2 h8 f4 f9 f5 b4 i1 i4 i5 d2 a8;generalize Gc _ _ _=W3 at *;have M:=O (bR z a3.o.1 a6.o.1 (C:=cO k l c s t l2 l3 (.slice A n1 E) (.slice a0 X j) id sl ot lo));have d6:W3.cell? ⟨w.1.size+1,20,none⟩=some (.slice a0 X j):=by rw[a5.o.s.cell];exact M.o.2.2.2.2.2.2.1
 have e7:=IE.o (jp ok w W3) U ds W3 a0 j (fun c J=>J.2) f0.o HE.o.1 (HE.o.2.Do a5.o.b) j5.o;rw[j9.o,k0.o]at e7;refine wk fun KK a9=>?_;go_wp2_with (first| (with_reducible refine l0 109 ?_;refine ac b9 c9 aj z (.tmp 2) z w.1.size ds z (O a5.o.f) e4.o.1 ?_));refine e7.mono ?_;rintro e W4 ⟨⟨V,G,n2,F,rfl,hd,S⟩,H⟩;have d9:=O (a5.o.below H);have i6:=O (f2.o.Do H);have i3:=O (g7.o.Do H);have i2:=O (nE hd a5.o.lt);have d3:Hid (D2.CR=0->n2=le.length/\aF n2 F/\aE (w.1.size+4<=·) W4 G 0 le):=O fun h=>⟨(S h).1,(S h).2.1,(S h).2.2.CQ fun c J=>by have h1:W3.1.size<=c:=J;have h2:=a5.o.lt;show w.1.size+4<=c;omega⟩
 have d0:Hid (U.CR=0->n1=lb.length/\aF n1 E/\aE (w.1.size+4<=·) W4 A 0 lb):=O fun h=>⟨(b8.o h).1,(b8.o h).2.1,(b8.o h).2.2.Do H⟩;have d1:=O hd.cells;clear e7 hd S H a5 f2 g7 f0 b8 d6 M;go_wp2_with (first
  | (with_reducible refine s0 109 ?_;refine af aj z (.tmp 2) (.tmp 173) z w.1.size V _ z z d9.o.f e4.o.1 d1.o ?_;intro N k5 c5;have b5:=O (d9.o.Dc k5 c5);have e9:=O (c5.Dz i6.o (by omega));have f7:=O (c5.Dz i3.o (by omega));have g8:=O (bx a7 i2.o c5 (by omega) (by omega));have i9:Hid (U.CR=0->n1=lb.length/\aF n1 E/\aE (w.1.size+4<=·) N A 0 lb):=(O fun h=>⟨(d0.o h).1,(d0.o h).2.1,c5.Ew (d0.o h).2.2 (by omega)⟩);have f3:Hid (D2.CR=0->n2=le.length/\aF n2 F/\aE (w.1.size+4<=·) N G 0 le):=(O fun h=>⟨(d3.o h).1,(d3.o h).2.1,c5.Ew (d3.o h).2.2 (by omega)⟩);clear k5 c5 d9 i6 i3 i2 d0 d3;have M:=O (bR z a3.o.1 a6.o.1 (C:=cO k l c s t l2 l3 (.slice A n1 E) (.slice a0 X j) id sl ot lo));have d6:N.cell? ⟨w.1.size+1,20,none⟩=some (.slice a0 X j):=(by rw[b5.o.s.cell];exact M.o.2.2.2.2.2.2.1);have j6:=b5.o.s.frozen 20)
 )
 refine a9.o _ _ ?_;clear a9 KK d6 j6 M;have a8:=O ((cC (k:=k) (l:=l) (c:=c) (s:=s) (t:=t) (bv:= .slice A n1 E) (ev:= .slice a0 X j) (id:=id) (sl:=sl) (ot:=ot) (lo:=lo) a3.1 a6.1 (.slice G n2 F) 0 false).2.1);have e5:=b5.Dw (b5.s.set1 20 (.slice G n2 F)) (Ch.one 20 _ N);rw[a8.o]at e5;have i0:=bx a7 g8 (Ch.one (b:=w.1.size+1) 20 (.slice G n2 F) N) (by omega) (by omega);have i7:=(Ch.one (b:=w.1.size+1) 20 (.slice G n2 F) N).Dz e9 (by omega);have f6:=(Ch.one (b:=w.1.size+1) 20 (.slice G n2 F) N).Dz f7 (by omega)
 have i8:D2.CR=0->bX (w.1.size+4<=·) (N.setCell (ad (w.1.size+1) 20) (.slice G n2 F)) (cO k l c s t l2 l3 (.slice A n1 E) (.slice G n2 F) id sl ot lo) (.mk k l c s t x y lb le id sl ot lo):=fun h=>by
  let ⟨g1,g2,g3⟩:=i9 (k6 h)
  let ⟨g4,g5,g6⟩:=f3 h
  unfold bX;exact⟨l2,l3,A,G,E,F,by rw[<-g1,<-g4];rfl,i7,f6,g1▸g2,(Ch.one (b:=w.1.size+1) 20 (.slice G n2 F) N).Ew g3 (by omega),g4▸g5,(Ch.one (b:=w.1.size+1) 20 (.slice G n2 F) N).Ew g6 (by omega)⟩
 have e0:=O e5;have h9:=O i0;have d7:=O i8;clear e5 i0 i7 f6 i8 b5 g8 e9 f7 i9 f3 a8;generalize Gc _ _ _=W6 at *;let ⟨K,e3⟩:=eX (cO k l c s t l2 l3 (.slice A n1 E) (.slice G n2 F) id sl ot lo)
 have b6:Hid (K.length=25/\∀v∈K,v.oneCell'=true):=O (by rw[<-e3];exact hk a3 a6);rw[e3]at e0 d7;clear e3;go_wp2;have j3:prog.follows .mixedOrders=true:=by kernel_rfl
 let ⟨a2,hV⟩:=eX (W6.drew)
 have a4:Hid (lp w V K a2):=O (by rw[<-hV];exact e0.below (FB _ W6).drew);have j7:Hid (aG (jp ok w a2) a2 D2 V):=O (by rw[<-hV];exact eN h9 (FB _ W6).drew);have k1:Hid (D2.CR=0->bX (w.1.size+4<=·) a2 K (.mk k l c s t x y lb le id sl ot lo)):=O fun h=>by rw[<-hV];exact(d7 h).keep fun b o v _ hv=>ai (FB _ W6).drew b o v hv
 clear e0 h9 d7;apply al [3] (fun W=>ak W w.1.size 109 V/\ak W (w.1.size+1) 60 K) j3;rw[hV];have h5:Hid (ak a2 w.1.size 109 V/\ak a2 (w.1.size+1) 60 K):=O ⟨a4.f,a4.s⟩;refine tl 0 176 h5 109 2 w.1.size 0 V du (fun W hS=>hS.1.whole) b9 c9 (by rw[d1.o.1];exact aj) ?_;refine tl 1 177 h5 60 3 (w.1.size+1) 0 K j4 (fun W hS=>hS.2.whole) j0 f1 (by rw[b6.o.1];exact ar) ?_;refine nm ?_;refine oD 2 fun e8 hK=>?_;refine an aj (.tmp 4) (.tmp 176) z (w.1.size+1+1) V _ z z a4.z z d1 ?_;intro W7 k7 c7;have Z:=O (EQ k7 c7);clear k7 c7;apply hK _ _ (fun _=>⟨Z.2.CV (by omega) a4.f,Z.2.CV (by omega) a4.s⟩);clear hK e8;refine oD 3 fun e8 hK=>?_
 refine an ar (.tmp 5) (.tmp 177) z (w.1.size+1+1+1) K _ z z (Z.2.CV (by omega) a4.y) z b6 ?_;intro W8 k8 c8;have K8:=O (EQ k8 c8);clear k8 c8;apply hK _ _ nofun;clear hK e8;simp only[Gf];refine dn ?_;have j2:zF ok w R (.returned (.tuple #[.agg V.toArray,.agg K.toArray])) W8:=by
  rw[HR.o];refine⟨⟨V,K,z,(K8.2.df (fun e=>?_) (Z.2.df (fun e=>?_) j7)).CQ fun c J=>?_,b6,fun h=>?_⟩,K8.2.below (by omega) (Z.2.below (by omega) a4.b)⟩
  .rcases e.1 with e|e
   .have:=a7 _ e;omega
   .omega
  .rcases e.1 with e|e
   .have:=a7 _ e;omega
   .omega
  .rcases J.1 with h|h
   .exact .inl h
   .exact .inr (by omega)
  .have h0:=(k1 h).keep (w':=W8) fun b o v H hv=>by have l5:w.1.size+4<=b:=H;rw[K8.o.2.cell (by omega),Z.o.2.cell (by omega)];exact hv
   exact h0.CQ fun c J=>by have k9:w.1.size+4<=c:=J;show w.1.size<=c;omega
 have h4:=K8.2.CV (show w.1.size+1+1≠w.1.size+1+1+1 by omega) Z.1;have HF:=O (EQ h4 j2);clear j2 h4;go_wp2;exact ge b9 c9 aj j0 f1 ar HF.1 d1.1 K8.1 b6.1 z z z z HF.2
section
variable {w W W':Fk} {cs:List Fr} {ok:Nat→Prop} {D:DF}
theorem aG.Eg(h:aG ok w D cs){l:List Nm}(g:Ro ma ok w v l):aG ok w {D with names:=l} (cs.set 13 v):=by obtain⟨F,C,G,E,A,n1,n2,n3,n4,J,rfl,j,H⟩:=h;exact⟨F,C,G,E,A,n1,n2,n3,n4,v,z,j,g⟩
theorem aG.EG(h:aG ok w D cs)(n:Nat):aG ok w {D with locals:=n} (cs.set 15 (I n)):=by obtain⟨G,E,H,F,C,n1,n2,n3,n4,A,rfl,j,g⟩:=h;exact⟨G,E,H,F,C,n1,n2,n3,n4,A,z,j,g⟩
theorem aG.EI(h:aG ok w D cs)(n:Nat):aG ok w {D with CY:=n} (cs.set 16 (I n)):=by obtain⟨G,E,H,F,C,n1,n2,n3,n4,A,rfl,j,g⟩:=h;exact⟨G,E,H,F,C,n1,n2,n3,n4,A,z,j,g⟩
theorem aG.c7(h:aG ok w D cs):cs[7]? =some (I D.P.stmts)/\cs[15]? =some (I D.locals)/\cs[16]? =some (I D.CY)/\∃g,cs[13]? =some g/\Ro ma ok w g D.names:=by obtain⟨G,E,H,F,C,n1,n2,n3,n4,g,rfl,A,j⟩:=h;exact⟨z,z,z,g,z,j⟩
theorem aG.inc(h:aG ok w D cs):aG ok w D.inc (cs.set 7 (I ((D.P.stmts:Int)+1))):=by obtain⟨G,E,H,F,C,n1,n2,n3,n4,A,rfl,g,j⟩:=h;exact⟨G,E,H,F,C,n1,n2,n3,n4,A,z,⟨g.vars,g.CW,g.CX,g.threads,g.nv,g.na,g.nm,g.nc,g.nh⟩,j⟩
def zL(w W:Fk)(c:Nat):Prop:=w.1.size+4<=c/\c<W.1.size
theorem sj:(prog.info? 114).map (fun i=> (i.zero.map (fun z=>z.cells.size),i.size,decide (i.bytes<=1024)))=some (some 3,3,true):=by kernel_rfl
theorem fu(h:aG (jp ok w W) W' D l2)(j:W.1.size<=W'.1.size):aG (jp ok w W') W' D l2:=h.CQ fun c g=>⟨g.1,by have:=g.2;omega⟩
end
theorem xz{ok:Nat->Prop}{cs:List Fr}{k l c:Int}{x y:Ex}{body els:List St}{id sl ot:Int}{lo:Bool}(S:∀c,ok c->c<w.1.size)(hI:hz D)(hl:D.locals<=32)
  (N:Hid (lp w cs (cO k l c s t l2 l3 (.slice a0 body.length j) (.slice a1 els.length n0) id sl ot lo) W))(HD:Hid (aG (jp ok w W) W D cs))(HX:Hid (ExL (w.1.size+4<=·) W l2 x))(HY:Hid (ExL (w.1.size+4<=·) W l3 y))
  (HB:Hid (aF body.length j/\aE (fun _=>True) w a0 0 body))(HE:Hid (aF els.length n0/\aE (fun _=>True) w a1 0 els))(IB:Hid (qR body))(IE:Hid (qR els)){R:DF×St}
  (HR:Hid (R=((DF.CV els (DF.CV body (D.stM (l,c) k s t sl ot lo).1).1).1,.mk k l c s t x y (DF.CV body (D.stM (l,c) k s t sl ot lo).1).2 (DF.CV els (DF.CV body (D.stM (l,c) k s t sl ot lo).1).1).2 id (D.stM (l,c) k s t sl ot lo).2.1 (D.stM (l,c) k s t sl ot lo).2.2.1 (D.stM (l,c) k s t sl ot lo).2.2.2)))(hU:l4.length=171:=by rfl):
  FR prog (Jp 9 (f81.body.getD .skip)) (Gb prog f81 (zF ok w R)) ⟨(v0::v1::Pt w.1.size::Pt (w.1.size+1)::Pt (w.1.size+1+1)::Pt (w.1.size+1+1+1)::I k::l4).toArray,[]⟩ W:=by
 revert l4;apply aN;iterate 171 intro _
 change FR _ _ _ _ _;obtain⟨du,d9,d7⟩:=cd;obtain⟨v7,v6,v9⟩:=hY;obtain⟨i9,z9,p7,q7,p9⟩:=em;obtain⟨i4,z4,p5,o8,h0⟩:=jI;have d4:=O HX.o.cells;have d2:=O HY.o.cells;have a6:=O HD.o.cells;have F:=O (bR z d4.o.1 d2.o.1 (C:=cO k l c s t l2 l3 (.slice a0 body.length j) (.slice a1 els.length n0) id sl ot lo));conv in (Jp _ _)=>whnf
 refine wk fun KK m7=>?_;by_cases h8:k=8
 .subst h8;have h0:W.cell? ⟨w.1.size+1,4,none⟩=some (.string t):=by rw[N.o.s.cell];exact F.o.2.2.2.2.1
  have o5:W.cell? ⟨w.1.size+1,1,none⟩=some (I l):=by rw[N.o.s.cell];exact F.o.2.1
  have o7:W.cell? ⟨w.1.size+1,2,none⟩=some (I c):=by rw[N.o.s.cell];exact F.o.2.2.1
  obtain⟨⟨D3,n⟩,g4⟩:∃q,D.CZ t 3 3 (l,c)=q:=⟨_,z⟩;have c8:=eV D t 3 3 (l,c) (jp ok w W) cs W (fun c hc=>hc.2) HD.o;rw[g4]at c8;have Z:D.stM (l,c) 8 s t sl ot lo=(D3,sl,(n.slot:Int),lo):=by unfold DF.stM;rw[am (by decide)];rw[aD rfl,g4]
  have j2:Hid (hz D3):=O (by have:=jJ hI hl (l,c) 8 s t sl ot lo;rw[Z]at this;exact this);rw[Z]at HR;have m2:=HR;clear HR Z;clear g4;go_wp2_with (first| ((with_reducible refine gU _ (.load 109 _) ?_);refine ac d9 d7 aj z (.tmp 2) z w.1.size cs z (O N.o.f) a6.o.1 ?_)|fail);refine c8.mono ?_;clear c8;rintro e W6 ⟨⟨ds,rfl,hd⟩,A⟩;have j7:=O (N.o.below A);have l5:Hid (ExL (zL w W) W6 l2 x):=O (ExL.Do HX.o.bound A);have j3:Hid (ExL (zL w W) W6 l3 y):=O (ExL.Do HY.o.bound A);have f6:=O hd.cells;have j6:=O hd;have i7:=O A.size;have d1:=O N.o.lt;clear A hd N HX HY HD h0 o5 o7 F;go_wp2_with (first
   | ((with_reducible refine cp 11 (.alloc 109) ?_);obtain⟨bA,i8⟩:∃b,W6.1.size=b:=⟨_,z⟩;refine ag p7 q7 p9 z z bA i8 ?_;intro W7 k7 A s7;have K7:=O k7;have a2:=O (j7.o.below A);have e5:=O (l5.o.Do A);have e3:=O (j3.o.Do A);have e7:=O (j6.o.below A);have HA:=O (show W.1.size<=bA by have:=i7.o;omega);clear k7 A j7 j6 l5 j3 i8 i7)
   | ((with_reducible refine cp 12 (.alloc 114) ?_);obtain⟨bN,i6⟩:∃b,W7.1.size=b:=⟨_,z⟩;refine ag p5 o8 h0 z z bN i6 ?_;intro W8 k8 A s8;have K8:=O (EQ (K7.o.below A) k8);have g3:=O (a2.o.below A);have g5:=O (e5.o.Do A);have f4:=O (e3.o.Do A);have g2:=O (e7.o.below A);have b7:=O (show bA+1=bN by omega);clear k8 A a2 e7 e5 e3 K7 i6)
   | ((with_reducible refine cY (.store 109 (.tmp 11) _) ?_);refine af aj z (.tmp 11) (.tmp 135) z bA ds _ z z K8.o.1 z f6.o ?_;intro W9 k9 c9;have hA:=HA.o;have g6:=d1.o;have K9:=O (EQ k9 (c9.CV (by have:=b7.o;omega) K8.o.2));have j0:=O (g3.o.ch (by omega) c9);have k1:=O (c9.ex (fun e M=>by have:=M.2;omega) g5.o);have j1:=O (c9.ex (fun e M=>by have:=M.2;omega) f4.o);have i1:=O (c9.df (fun e=>by have:=e.2;omega) g2.o);clear k9 c9 g3 g2 g5 f4 K8 hA g6)
   | ((with_reducible refine cY (.store 114 _ _) ?_);refine af cN z (.tmp 12) (.tmp 136) z bN n.cells _ z z K9.o.2 z (gj n) ?_;intro u4 i3 a3;have hA:=HA.o;have m8:=b7.o;have g6:=d1.o;have d6:=O (EQ (a3.CV (by omega) K9.o.1) i3);have f5:=O (j0.o.ch (by omega) a3);have i2:=O (a3.ex (fun e M=>by have:=M.2;omega) k1.o);have k2:=O (a3.ex (fun e M=>by have:=M.2;omega) j1.o);have l7:=O (a3.df (fun e=>by have:=e.2;omega) i1.o);clear i3 a3 j0 i1 k1 j1 K9 hA m8 g6)
   | ((with_reducible refine cp 137 (.load 109 _) ?_);refine ac d9 d7 aj z (.tmp 11) z bA ds z (O d6.o.1) f6.o.1 ?_)
   | ((with_reducible refine cY (.store 109 (.tmp 2) _) ?_);refine af aj z (.tmp 2) (.tmp 137) z w.1.size ds _ z z f5.o.f a6.o.1 f6.o ?_;intro d0 h7 a4;have h9:=O (a4.CV (by have:=HA.o;have:=b7.o;have:=d1.o;omega) d6.o.2);have Q:=O (f5.o.Dc h7 a4);have m5:=O (a4.Dz (ExL.CQ (fun e M=>M.1) i2.o) (by omega));have m3:=O (a4.Dz (ExL.CQ (fun e M=>M.1) k2.o) (by omega));have l9:=O (bx S (fu l7.o (by have:=HA.o;have:=d6.o.1.lt;omega)) a4 (FL _) (by omega));clear h7 a4 f5 l7 i2 k2 d6;have n1:d0.cell? ⟨bN,1,none⟩=some (I n.kind):=(by rw[h9.o.cell];rfl);have n2:d0.cell? ⟨bN,2,none⟩=some (I n.slot):=(by rw[h9.o.cell];rfl);have F:=O (bR z d4.o.1 d2.o.1 (C:=cO 8 l c s t l2 l3 (.slice a0 body.length j) (.slice a1 els.length n0) id sl ot lo));have b5:d0.cell? ⟨w.1.size+1,22,none⟩=some (I sl):=(by rw[Q.o.s.cell];exact F.o.2.2.2.2.2.2.2.2.1);have q0:d0.cell? ⟨w.1.size+1,23,none⟩=some (I ot):=(by rw[Q.o.s.cell];exact F.o.2.2.2.2.2.2.2.2.2.1);have a8:d0.cell? ⟨w.1.size+1,24,none⟩=some (.bool lo):=(by rw[Q.o.s.cell];exact F.o.2.2.2.2.2.2.2.2.2.2);have a7:=Q.o.s.frozen 22;have r2:=Q.o.s.frozen 23;have b4:=Q.o.s.frozen 24;have u2:=O (show bN≠w.1.size+1 by have:=HA.o;have:=b7.o;have:=d1.o;omega);clear b7 HA s7 s8 F)
   |fail)
  have f1:=cC (k:=8) (l:=l) (c:=c) (s:=s) (t:=t) (bv:= .slice a0 body.length j) (ev:= .slice a1 els.length n0) (id:=id) (sl:=sl) (ot:=ot) (lo:=lo) d4.o.1 d2.o.1 (.slice none 0 0) ((n.slot:Int)) (false);have g0:=(Q.o).Dw ((Q.o).s.set1 23 (I n.slot)) (Ch.one 23 _ _);rw[f1.2.2.2.2.1]at g0;have f3:=bx S (l9.o) (Ch.one (b:=w.1.size+1) 23 (I n.slot) _) (by omega) (by omega);have f0:=(Ch.one (b:=w.1.size+1) 23 (I n.slot) _).Dz (m5.o) (by omega);have f2:=(Ch.one (b:=w.1.size+1) 23 (I n.slot) _).Dz (m3.o) (by omega);have g8:=O g0;have g7:=O f3;have g9:=O f0;have h4:=O f2;clear f1 g0 f3 f0 f2;clear n1 n2 b5 q0 a8 a7 r2 b4 Q l9 m5 m3;generalize Gc _ _ _=Wz at *;go_wp2_with fail;refine m7.o _ _ ?_
  exact qb S j2.o g8 g7 g9 h4 HB HE IB IE m2
 by_cases p8:k=12
 .subst p8;have h0:W.cell? ⟨w.1.size+1,4,none⟩=some (.string t):=by rw[N.o.s.cell];exact F.o.2.2.2.2.1
  have o5:W.cell? ⟨w.1.size+1,1,none⟩=some (I l):=by rw[N.o.s.cell];exact F.o.2.1
  have o7:W.cell? ⟨w.1.size+1,2,none⟩=some (I c):=by rw[N.o.s.cell];exact F.o.2.2.1
  obtain⟨⟨D3,n⟩,g4⟩:∃q,D.CZ t 1 100 (l,c)=q:=⟨_,z⟩;have c8:=eV D t 1 100 (l,c) (jp ok w W) cs W (fun c hc=>hc.2) HD.o;rw[g4]at c8;have Z:D.stM (l,c) 12 s t sl ot lo=(D3,sl,(n.slot:Int),decide (n.kind=100)):=by unfold DF.stM;rw[am (by decide)];rw[am (by decide)];rw[aD rfl,g4]
  have j2:Hid (hz D3):=O (by have:=jJ hI hl (l,c) 12 s t sl ot lo;rw[Z]at this;exact this);rw[Z]at HR;have m2:=HR;clear HR Z;clear g4;go_wp2_with (first| ((with_reducible refine gU _ (.load 109 _) ?_);refine ac d9 d7 aj z (.tmp 2) z w.1.size cs z (O N.o.f) a6.o.1 ?_)|fail);refine c8.mono ?_;clear c8;rintro e W6 ⟨⟨ds,rfl,hd⟩,A⟩;have j7:=O (N.o.below A);have l5:Hid (ExL (zL w W) W6 l2 x):=O (ExL.Do HX.o.bound A);have j3:Hid (ExL (zL w W) W6 l3 y):=O (ExL.Do HY.o.bound A);have f6:=O hd.cells;have j6:=O hd;have i7:=O A.size;have d1:=O N.o.lt;clear A hd N HX HY HD h0 o5 o7 F;go_wp2_with (first
   | ((with_reducible refine cp 13 (.alloc 109) ?_);obtain⟨bA,i8⟩:∃b,W6.1.size=b:=⟨_,z⟩;refine ag p7 q7 p9 z z bA i8 ?_;intro W7 k7 A s7;have K7:=O k7;have a2:=O (j7.o.below A);have e5:=O (l5.o.Do A);have e3:=O (j3.o.Do A);have e7:=O (j6.o.below A);have HA:=O (show W.1.size<=bA by have:=i7.o;omega);clear k7 A j7 j6 l5 j3 i8 i7)
   | ((with_reducible refine cp 14 (.alloc 114) ?_);obtain⟨bN,i6⟩:∃b,W7.1.size=b:=⟨_,z⟩;refine ag p5 o8 h0 z z bN i6 ?_;intro W8 k8 A s8;have K8:=O (EQ (K7.o.below A) k8);have g3:=O (a2.o.below A);have g5:=O (e5.o.Do A);have f4:=O (e3.o.Do A);have g2:=O (e7.o.below A);have b7:=O (show bA+1=bN by omega);clear k8 A a2 e7 e5 e3 K7 i6)
   | ((with_reducible refine cY (.store 109 (.tmp 13) _) ?_);refine af aj z (.tmp 13) (.tmp 150) z bA ds _ z z K8.o.1 z f6.o ?_;intro W9 k9 c9;have hA:=HA.o;have g6:=d1.o;have K9:=O (EQ k9 (c9.CV (by have:=b7.o;omega) K8.o.2));have j0:=O (g3.o.ch (by omega) c9);have k1:=O (c9.ex (fun e M=>by have:=M.2;omega) g5.o);have j1:=O (c9.ex (fun e M=>by have:=M.2;omega) f4.o);have i1:=O (c9.df (fun e=>by have:=e.2;omega) g2.o);clear k9 c9 g3 g2 g5 f4 K8 hA g6)
   | ((with_reducible refine cY (.store 114 _ _) ?_);refine af cN z (.tmp 14) (.tmp 151) z bN n.cells _ z z K9.o.2 z (gj n) ?_;intro u4 i3 a3;have hA:=HA.o;have m8:=b7.o;have g6:=d1.o;have d6:=O (EQ (a3.CV (by omega) K9.o.1) i3);have f5:=O (j0.o.ch (by omega) a3);have i2:=O (a3.ex (fun e M=>by have:=M.2;omega) k1.o);have k2:=O (a3.ex (fun e M=>by have:=M.2;omega) j1.o);have l7:=O (a3.df (fun e=>by have:=e.2;omega) i1.o);clear i3 a3 j0 i1 k1 j1 K9 hA m8 g6)
   | ((with_reducible refine cp 152 (.load 109 _) ?_);refine ac d9 d7 aj z (.tmp 13) z bA ds z (O d6.o.1) f6.o.1 ?_)
   | ((with_reducible refine cY (.store 109 (.tmp 2) _) ?_);refine af aj z (.tmp 2) (.tmp 152) z w.1.size ds _ z z f5.o.f a6.o.1 f6.o ?_;intro d0 h7 a4;have h9:=O (a4.CV (by have:=HA.o;have:=b7.o;have:=d1.o;omega) d6.o.2);have Q:=O (f5.o.Dc h7 a4);have m5:=O (a4.Dz (ExL.CQ (fun e M=>M.1) i2.o) (by omega));have m3:=O (a4.Dz (ExL.CQ (fun e M=>M.1) k2.o) (by omega));have l9:=O (bx S (fu l7.o (by have:=HA.o;have:=d6.o.1.lt;omega)) a4 (FL _) (by omega));clear h7 a4 f5 l7 i2 k2 d6;have n1:d0.cell? ⟨bN,1,none⟩=some (I n.kind):=(by rw[h9.o.cell];rfl);have n2:d0.cell? ⟨bN,2,none⟩=some (I n.slot):=(by rw[h9.o.cell];rfl);have F:=O (bR z d4.o.1 d2.o.1 (C:=cO 12 l c s t l2 l3 (.slice a0 body.length j) (.slice a1 els.length n0) id sl ot lo));have b5:d0.cell? ⟨w.1.size+1,22,none⟩=some (I sl):=(by rw[Q.o.s.cell];exact F.o.2.2.2.2.2.2.2.2.1);have q0:d0.cell? ⟨w.1.size+1,23,none⟩=some (I ot):=(by rw[Q.o.s.cell];exact F.o.2.2.2.2.2.2.2.2.2.1);have a8:d0.cell? ⟨w.1.size+1,24,none⟩=some (.bool lo):=(by rw[Q.o.s.cell];exact F.o.2.2.2.2.2.2.2.2.2.2);have a7:=Q.o.s.frozen 22;have r2:=Q.o.s.frozen 23;have b4:=Q.o.s.frozen 24;have u2:=O (show bN≠w.1.size+1 by have:=HA.o;have:=b7.o;have:=d1.o;omega);clear b7 HA s7 s8 F)
   |fail)
  have r7:((n.kind:Int)==100)=decide (n.kind=100):=by rw[Bool.eq_iff_iff];simp;omega
  rw[<-r7]at m2;have f1:=cC (k:=12) (l:=l) (c:=c) (s:=s) (t:=t) (bv:= .slice a0 body.length j) (ev:= .slice a1 els.length n0) (id:=id) (sl:=sl) (ot:=ot) (lo:=lo) d4.o.1 d2.o.1 (.slice none 0 0) ((n.slot:Int)) (false);have g0:=(Q.o).Dw ((Q.o).s.set1 23 (I n.slot)) (Ch.one 23 _ _);rw[f1.2.2.2.2.1]at g0;have f3:=bx S (l9.o) (Ch.one (b:=w.1.size+1) 23 (I n.slot) _) (by omega) (by omega);have f0:=(Ch.one (b:=w.1.size+1) 23 (I n.slot) _).Dz (m5.o) (by omega);have f2:=(Ch.one (b:=w.1.size+1) 23 (I n.slot) _).Dz (m3.o) (by omega)
  have l6:=cC (k:=12) (l:=l) (c:=c) (s:=s) (t:=t) (bv:= .slice a0 body.length j) (ev:= .slice a1 els.length n0) (id:=id) (sl:=sl) (ot:=(n.slot:Int)) (lo:=lo) d4.o.1 d2.o.1 (.slice none 0 0) (0) ((n.kind:Int)==100);have g1:=(g0).Dw ((g0).s.set1 24 (.bool ((n.kind:Int)==100))) (Ch.one 24 _ _);rw[l6.2.2.2.2.2]at g1;have j5:=bx S (f3) (Ch.one (b:=w.1.size+1) 24 (.bool ((n.kind:Int)==100)) _) (by omega) (by omega);have k0:=(Ch.one (b:=w.1.size+1) 24 (.bool ((n.kind:Int)==100)) _).Dz (f0) (by omega);have j9:=(Ch.one (b:=w.1.size+1) 24 (.bool ((n.kind:Int)==100)) _).Dz (f2) (by omega);have g8:=O (g1.below (FB _ _).drew);have g7:=O (eN j5 (FB _ _).drew);have g9:=O (ExL.Do k0 (FB _ _).drew)
  have h4:=O (ExL.Do j9 (FB _ _).drew);clear l6 g1 j5 k0 j9 f1 g0 f3 f0 f2;clear r7;go_region;all_goals
   generalize (Gc _ _ _).drew=Wz at *;go_wp2_with fail;refine m7.o _ _ ?_;exact qb S j2.o g8 g7 g9 h4 HB HE IB IE m2
 by_cases h1:k=1
 .subst h1;obtain⟨D1,m6⟩:∃D1,D.DG (l,c) s=D1:=⟨_,z⟩;obtain⟨J,m4⟩:∃J,D1.DD (l,c)=J:=⟨_,z⟩;have n5:jS D D1:=m6▸lf D (l,c) s;have n8:jS D1 J:=m4▸ (ko D1 (l,c)).1;have Z:D.stM (l,c) 1 s t sl ot lo=(J.Ez s,(J.locals:Int),ot,true):=by unfold DF.stM;rw[aD rfl,m6,m4]
  have j2:Hid (hz (J.Ez s)):=O (by have:=jJ hI hl (l,c) 1 s t sl ot lo;rw[Z]at this;exact this);rw[Z]at HR;have HI:=O (hI.EK (n5.trans n8));have j8:D1.locals=D.locals:=n5.loc;have h3:Hid (J.locals=D.locals):=O (by rw[n8.loc,j8]);obtain⟨oi,o0⟩:∃o,D.at s=o:=⟨_,z⟩;have c8:=jA D s (jp ok w W) cs W HD.o;rw[o0]at c8;have e8:(if oi.isSome=true then D.DA 130 (l,c) else D)=D1:=by rw[<-m6];unfold DF.DG;rw[o0]
  have d3:(if 32<=D.locals then D1.DA 134 (l,c) else D1)=J:=by rw[<-m4,<-j8];rfl
  obtain⟨G,n6⟩:∃n,D.locals=n:=⟨_,z⟩;rw[n6]at j8 h3 d3 hl;have q9:(D.locals:Int)=(G:Int):=by rw[n6]
  have q3:(D1.locals:Int)=(G:Int):=by rw[j8]
  have c3:=(N.o.s.cell 3).trans F.o.2.2.2.1;have t9:=O hl;have HH:=O (EQ q9 q3);clear n5 n8 Z o0 m6 m4 hl hI n6 q9 q3 j8;go_wp2_with (first| ((with_reducible refine gU _ (.load 109 _) ?_);refine ac d9 d7 aj z (.tmp 2) z w.1.size cs z (O N.o.f) a6.o.1 ?_)|fail);refine c8.mono ?_;clear c8;rintro e W1 ⟨rfl,A⟩;have U:=O (N.o.below A);have e4:=O (HX.o.Do A);have e0:=O (HY.o.Do A);have a9:=O (eN HD.o A);clear A N HX HY HD c3;have c15:=(U.o.f.cell 15).trans a9.o.c7.2.1;have b5:=(U.o.s.cell 22).trans F.o.2.2.2.2.2.2.2.2.1;have a8:=(U.o.s.cell 24).trans F.o.2.2.2.2.2.2.2.2.2.2;have a7:=U.o.s.frozen 22;have b4:=U.o.s.frozen 24;have q1:=(U.o.s.cell 1).trans F.o.2.1
  have q2:=(U.o.s.cell 2).trans F.o.2.2.1;rw[HH.o.1]at c15;rcases oi with _|i<;>by_cases m1:32<=G;focus
   rw[am (by simp)]at e8;simp only[qN];rw[e8]at a9;have m9:(32:Int)<=(G:Int):=by omega
   rw[aD m1]at d3;have X:=bP D1 _ 134 (l,c) _ _ a9.o;rw[d3]at X;go_wp2_with (first| (with_reducible refine l1 97 109 ?_;refine ac d9 d7 aj z (.tmp 2) z w.1.size _ z (O U.o.f) a6.o.1 ?_));refine X.mono ?_;clear X;rintro e V1 ⟨⟨uE,rfl,hd⟩,A⟩;have d8:=O hd.cells;have V:=O (U.o.below A);have b8:=O (e4.o.Do A);have b9:=O (e0.o.Do A);have b6:=O (fu hd A.size);clear hd A U e4 e0 a9 c15 b5 a8 a7 b4 q1 q2
   go_wp2_with (first| (with_reducible refine s1 109 2 ?_;refine af aj z (.tmp 2) (.tmp 100) z w.1.size uE _ z z V.o.f a6.o.1 d8.o ?_;intro W2 kk K;have H:=O (V.o.Dc kk K);have e6:=O (K.Dz b8.o (by omega));have e9:=O (K.Dz b9.o (by omega));have a5:=O (bx S b6.o K (FL _) (by omega));clear kk K V b8 b9 b6;have c15:=(H.o.f.cell 15).trans a5.o.c7.2.1;have b5:=(H.o.s.cell 22).trans F.o.2.2.2.2.2.2.2.2.1;have a8:=(H.o.s.cell 24).trans F.o.2.2.2.2.2.2.2.2.2.2;have a7:=H.o.s.frozen 22;have b4:=H.o.s.frozen 24;have q1:=(H.o.s.cell 1).trans F.o.2.1;have q2:=(H.o.s.cell 2).trans F.o.2.2.1;rw[h3.o]at c15));have h5:=H;have l8:=e6;have i5:=e9;have k6:=a5;have n9:=d8;clear H e6 e9 a5
  rotate_left;focus
   rw[am (by simp)]at e8;simp only[qN];rw[e8]at a9;have m9:¬ (32:Int)<=(G:Int):=by omega
   rw[am m1]at d3;rw[d3]at a9;go_wp2_with fail;have h5:=U;have l8:=e4;have i5:=e0;have k6:=a9;have n9:=a6;clear U e4 e0 a9
  rotate_left;focus
   rw[aD (show (some i).isSome=true from rfl)]at e8;simp only[qN];have u0:(0:Int)<=(i:Int):=by omega
   have m9:(32:Int)<=(G:Int):=by omega
   rw[aD m1]at d3;have X:=bP D _ 130 (l,c) _ _ a9.o;rw[e8]at X;go_wp2_with (first| (with_reducible refine l1 90 109 ?_;refine ac d9 d7 aj z (.tmp 2) z w.1.size _ z (O U.o.f) a6.o.1 ?_));refine X.mono ?_;clear X;rintro e V1 ⟨⟨uE,rfl,hd⟩,A⟩;have d8:=O hd.cells;have V:=O (U.o.below A);have b8:=O (e4.o.Do A);have b9:=O (e0.o.Do A);have b6:=O (fu hd A.size);clear hd A U e4 e0 a9 c15 b5 a8 a7 b4 q1 q2
   go_wp2_with (first| (with_reducible refine s1 109 2 ?_;refine af aj z (.tmp 2) (.tmp 93) z w.1.size uE _ z z V.o.f a6.o.1 d8.o ?_;intro W2 kk K;have H:=O (V.o.Dc kk K);have e6:=O (K.Dz b8.o (by omega));have e9:=O (K.Dz b9.o (by omega));have a5:=O (bx S b6.o K (FL _) (by omega));clear kk K V b8 b9 b6;have c15:=(H.o.f.cell 15).trans a5.o.c7.2.1;have b5:=(H.o.s.cell 22).trans F.o.2.2.2.2.2.2.2.2.1;have a8:=(H.o.s.cell 24).trans F.o.2.2.2.2.2.2.2.2.2.2;have a7:=H.o.s.frozen 22;have b4:=H.o.s.frozen 24;have q1:=(H.o.s.cell 1).trans F.o.2.1;have q2:=(H.o.s.cell 2).trans F.o.2.2.1;rw[HH.o.2]at c15)| (with_reducible refine l1 97 109 ?_;refine ac d9 d7 aj z (.tmp 2) z w.1.size _ z (O H.o.f) d8.o.1 ?_))
   have X:=bP D1 _ 134 (l,c) _ _ a5.o;rw[d3]at X;refine X.mono ?_;clear X;rintro e V2 ⟨⟨t5,rfl,hd⟩,A⟩;have p4:=O hd.cells;have V:=O (H.o.below A);have b8:=O (e6.o.Do A);have b9:=O (e9.o.Do A);have b6:=O (fu hd A.size);clear hd A H e6 e9 a5 c15 b5 a8 a7 b4 q1 q2
   go_wp2_with (first| (with_reducible refine s1 109 2 ?_;refine af aj z (.tmp 2) (.tmp 100) z w.1.size t5 _ z z V.o.f d8.o.1 p4.o ?_;intro W3 kk K;have d5:=O (V.o.Dc kk K);have p0:=O (K.Dz b8.o (by omega));have p1:=O (K.Dz b9.o (by omega));have o6:=O (bx S b6.o K (FL _) (by omega));clear kk K V b8 b9 b6;have c15:=(d5.o.f.cell 15).trans o6.o.c7.2.1;have b5:=(d5.o.s.cell 22).trans F.o.2.2.2.2.2.2.2.2.1;have a8:=(d5.o.s.cell 24).trans F.o.2.2.2.2.2.2.2.2.2.2;have a7:=d5.o.s.frozen 22;have b4:=d5.o.s.frozen 24;have q1:=(d5.o.s.cell 1).trans F.o.2.1;have q2:=(d5.o.s.cell 2).trans F.o.2.2.1;rw[h3.o]at c15));have h5:=d5;have l8:=p0;have i5:=p1;have k6:=o6;have n9:=p4;clear d5 p0 p1 o6
  rotate_left;focus
   rw[aD (show (some i).isSome=true from rfl)]at e8;simp only[qN];have u0:(0:Int)<=(i:Int):=by omega
   have m9:¬ (32:Int)<=(G:Int):=by omega
   rw[am m1]at d3;have X:=bP D _ 130 (l,c) _ _ a9.o;rw[e8]at X;go_wp2_with (first| (with_reducible refine l1 90 109 ?_;refine ac d9 d7 aj z (.tmp 2) z w.1.size _ z (O U.o.f) a6.o.1 ?_));refine X.mono ?_;clear X;rintro e V1 ⟨⟨uE,rfl,hd⟩,A⟩;have d8:=O hd.cells;have V:=O (U.o.below A);have b8:=O (e4.o.Do A);have b9:=O (e0.o.Do A);have b6:=O (fu hd A.size);clear hd A U e4 e0 a9 c15 b5 a8 a7 b4 q1 q2
   go_wp2_with (first| (with_reducible refine s1 109 2 ?_;refine af aj z (.tmp 2) (.tmp 93) z w.1.size uE _ z z V.o.f a6.o.1 d8.o ?_;intro W2 kk K;have H:=O (V.o.Dc kk K);have e6:=O (K.Dz b8.o (by omega));have e9:=O (K.Dz b9.o (by omega));have a5:=O (bx S b6.o K (FL _) (by omega));clear kk K V b8 b9 b6;have c15:=(H.o.f.cell 15).trans a5.o.c7.2.1;have b5:=(H.o.s.cell 22).trans F.o.2.2.2.2.2.2.2.2.1;have a8:=(H.o.s.cell 24).trans F.o.2.2.2.2.2.2.2.2.2.2;have a7:=H.o.s.frozen 22;have b4:=H.o.s.frozen 24;have q1:=(H.o.s.cell 1).trans F.o.2.1;have q2:=(H.o.s.cell 2).trans F.o.2.2.1;rw[HH.o.2]at c15));rw[d3]at a5;have h5:=H;have l8:=e6;have i5:=e9;have k6:=a5;have n9:=d8;clear H e6 e9 a5
  rotate_left;all_goals
   clear c15 b5 a8 a7 b4 q1 q2;have f1:=cC (k:=1) (l:=l) (c:=c) (s:=s) (t:=t) (bv:= .slice a0 body.length j) (ev:= .slice a1 els.length n0) (id:=id) (sl:=sl) (ot:=ot) (lo:=lo) d4.o.1 d2.o.1 (.slice none 0 0) ((G:Int)) (false);have g0:=(h5.o).Dw ((h5.o).s.set1 22 (I G)) (Ch.one 22 _ _);rw[f1.2.2.2.1]at g0;have f3:=bx S (k6.o) (Ch.one (b:=w.1.size+1) 22 (I G) _) (by omega) (by omega);have f0:=(Ch.one (b:=w.1.size+1) 22 (I G) _).Dz (l8.o) (by omega);have f2:=(Ch.one (b:=w.1.size+1) 22 (I G) _).Dz (i5.o) (by omega)
   have l6:=cC (k:=1) (l:=l) (c:=c) (s:=s) (t:=t) (bv:= .slice a0 body.length j) (ev:= .slice a1 els.length n0) (id:=id) (sl:=(G:Int)) (ot:=ot) (lo:=lo) d4.o.1 d2.o.1 (.slice none 0 0) (0) (true);have g1:=(g0).Dw ((g0).s.set1 24 (.bool true)) (Ch.one 24 _ _);rw[l6.2.2.2.2.2]at g1;have j5:=bx S (f3) (Ch.one (b:=w.1.size+1) 24 (.bool true) _) (by omega) (by omega);have k0:=(Ch.one (b:=w.1.size+1) 24 (.bool true) _).Dz (f0) (by omega);have j9:=(Ch.one (b:=w.1.size+1) 24 (.bool true) _).Dz (f2) (by omega);have g8:=O g1;have g7:=O j5;have g9:=O k0;have h4:=O j9;clear l6 g1 j5 k0 j9 f1 g0 f3 f0 f2;clear h5 l8 i5 k6;generalize (Gc (Gc _ _ _) _ _)=W5 at *
   have u7:prog.follows .mixedOrders=true:=by kernel_rfl
   obtain⟨Y,hV⟩:=eX W5.drew;have hq:∃j4,lp w j4 (cO 1 l c s t l2 l3 (.slice a0 body.length j) (.slice a1 els.length n0) id (G:Int) ot true) Y/\aG (jp ok w Y) Y J j4:=⟨_,by rw[<-hV];exact g8.o.below (FB _ W5).drew,by rw[<-hV];exact eN g7.o (FB _ W5).drew⟩;let ⟨j4,p6,m0⟩:=hq
   have f8:=O p6;have p2:=O m0;have t2:Hid (ExL (w.1.size+4<=·) Y l2 x):=O (by rw[<-hV];exact ExL.Do g9.o (FB _ W5).drew);have r6:Hid (ExL (w.1.size+4<=·) Y l3 y):=O (by rw[<-hV];exact ExL.Do h4.o (FB _ W5).drew);have t7:=O (bR z d4.o.1 d2.o.1 (C:=cO 1 l c s t l2 l3 (.slice a0 body.length j) (.slice a1 els.length n0) id (G:Int) ot true));obtain⟨-,n7,o9,vn,s6,q8⟩:=m0.c7;rw[h3.o]at n7;have HC:=O (EQ n7 (EQ o9 s6));have t3:=O q8;have q4:=m0.cells;have t8:=O q4;let ⟨i0,z0,u9,v3,t4,t6,u5⟩:=bJ sj
   have u1:prog.underlying 107=some (.slice 114):=by kernel_rfl
   clear p6 m0 n7 o9 s6 q8 g8 g7 g9 h4 q4;refine al [11] (fun W=>FM Y.1.size Y W) u7 ?_;rw[hV];clear hV;have f9:Hid (FM Y.1.size Y Y):=O (FB _ Y);refine fa 0 ?_;refine fK (fun W1=>W1.cell? ⟨w.1.size,13,none⟩=some vn) 1 (fun W1 h6=>by rw[(f8.o.f.below h6).cell];exact HC.o.2.2) ?_;refine fa 3 ?_;refine fK (fun W1=>W1.cell? ⟨w.1.size+1,3,none⟩=some (.string s)) 4 (fun W1 h6=>by rw[(f8.o.s.below h6).cell];exact t7.o.2.2.2.1) ?_;refine nm ?_;refine fa 5 ?_;refine fK (fun W1=>W1.cell? ⟨w.1.size,15,none⟩=some (.int .i64 (G:Int))) 6 (fun W1 h6=>by rw[(f8.o.f.below h6).cell];exact HC.o.1) ?_;refine fa 7 ?_;refine nm ?_
   refine dS (E:=ma) 2 8 9 107 113 114 107 (.const (.slice none 0 0)) (.tmp 106) (.tmp 112) z z z ⟨z,z,z⟩ ⟨z,z,z⟩ (by kernel_rfl) (by kernel_rfl) (by kernel_rfl) (by kernel_rfl) (by decide) z z z (by kernel_rfl) (by decide) ⟨106,z,by decide⟩ ⟨112,z,by decide⟩ (fun _=>z) u1 u9 v3 t4 t6 (by decide) (by decide) u5 z t3.o (fun _ _ _ _ _ h=>h) (by have:=HI.o.names;have:=HI.o.loc;omega) _ (Nm.mk s 100 G).cells ⟨s,100,G⟩ z z (fun _ _=>z) (fun _ h=>h) (fun v8 v2 g cap W6 r3 p3=>?_);have q6:=O r3;have f7:=O p3;clear r3 p3;refine nm ?_;refine fa 10 ?_;refine nm ?_;refine oD 11 fun u3 hK=>?_
   refine aA (by kernel_rfl) (.tmp 115) (.tmp 114) z w.1.size 13 109 (.slice (some (ad g 0)) (J.names.length+1) cap) j4 z z z z (f8.o.f.below f7.o) (by rw[t8.o.1];decide) ?_;intro W7 k7 c7;have K7:=O (EQ k7 c7);clear k7 c7;refine hK _ _ nofun ?_;clear hK u3;simp only[Gf];refine dn ?_;have t1:aG (jp ok w W6) W6 {J with names:=J.names++[⟨s,100,G⟩]} (j4.set 13 (.slice (some (ad g 0)) (J.names.length+1) cap)):=aG.tight (ok:=fun c=>ok c∨w.1.size+4<=c) (aG.Eg (aG.CQ (fun c hc=>hc.1) (p2.o.below f7.o)) (Ro.CQ (fun c hc=> .inr (by have h1:Y.1.size<=c:=hc;have:=f8.o.lt;omega)) (Ro.of q6.o)));have a2:=O ((f8.o.below f7.o).Dc K7.o.1 K7.o.2);have e7:=O (bx S t1 K7.o.2 (FL _) (by omega))
   have e5:=O (K7.o.2.Dz (ExL.Do t2.o f7.o) (by omega));have e3:=O (K7.o.2.Dz (ExL.Do r6.o f7.o) (by omega));clear t1 K7 q6 f7 f8 p2 t2 r6;have u6:W7.cell? (ad w.1.size 15)=some (I G):=by rw[a2.o.f.cell,Ge (by decide)];exact HC.o.1
   have v4:W7.cell? (ad w.1.size 16)=some (I J.CY):=by rw[a2.o.f.cell,Ge (by decide)];exact HC.o.2.1
   have u8:=a2.o.f.frozen 15;have v5:=a2.o.f.frozen 16;have w0:(G:Int)<33:=by have:=t9.o;omega
   go_wp2_with fail;clear u6 v4 u8 v5;have h1:=a2.o.Dc (a2.o.f.set1 15 (I ((G:Int)+1))) (Ch.one 15 _ W7);have h2:=h1.Dc (h1.f.set1 16 (I (max (J.CY:Int) ((G:Int)+1)))) (Ch.one 16 _ _);have e1:((max J.CY (G+1):Nat):Int)=max (J.CY:Int) ((G:Int)+1):=by omega
   have hd:=(e7.o.EG (G+1)).EI (max J.CY (G+1));rw[e1,show ((G+1:Nat):Int)=(G:Int)+1 from rfl]at hd;have e2:({({({J with names:=J.names++[⟨s,100,G⟩]}:DF) with locals:=G+1}:DF) with CY:=max J.CY (G+1)}:DF)=J.Ez s:=by unfold DF.Ez;rw[h3.o]
   rw[e2]at hd;have q5:=bx S (bx S hd (Ch.one (b:=w.1.size) 15 (I ((G:Int)+1)) W7) (FL _) (by omega)) (Ch.one (b:=w.1.size) 16 (I (max (J.CY:Int) ((G:Int)+1))) _) (FL _) (by omega);have hx:=(Ch.one (b:=w.1.size) 16 (I (max (J.CY:Int) ((G:Int)+1))) _).Dz ((Ch.one (b:=w.1.size) 15 (I ((G:Int)+1)) W7).Dz e5.o (by omega)) (by omega);have hy:=(Ch.one (b:=w.1.size) 16 (I (max (J.CY:Int) ((G:Int)+1))) _).Dz ((Ch.one (b:=w.1.size) 15 (I ((G:Int)+1)) W7).Dz e3.o (by omega)) (by omega);rw[h3.o]at HR;have g3:=O h2;have g2:=O q5;have g5:=O hx;have f4:=O hy;clear h1 h2 hd q5 hx hy e1 e2 a2 e7 e5 e3;generalize Gc (Gc _ _ _) _ _=W8 at *;refine m7.o _ _ ?_;exact qb S j2.o g3 g2 g5 f4 HB HE IB IE HR
 .have Z:D.stM (l,c) k s t sl ot lo=(D,sl,ot,lo):=by unfold DF.stM;rw[am h1,am h8,am p8]
  rw[Z]at HR;clear Z F;go_wp2_with fail;refine m7.o _ _ ?_;exact qb S hI N HD HX HY HB HE IB IE HR
theorem dc{E:Array Oper}{D:List Oper}{o:Oper}{a:Act}{C:Exit->Act->Fk->Prop}{T F:GA}(M:(prog.info? T).map (·.size)=some n)(G:o.guard=none)(x y:Operand)(J:o.op= .store T x y)
  (b k:Nat)(vs:List Fr){pre mid post:List Fr}(N:a.eval x= .pointer (some (ad b k)))(K:a.eval y= .agg vs.toArray)(A:ak w b F (pre++(mid++post)))(H:pre.length=k)(j:mid.length=n)(g:vs.length=n/\∀v∈vs,v.oneCell'=true)(h:∀W,ak W b F (pre++(vs++post))->Ch b w W->wpList prog E C D (a.put o.dst Gm) W):wpList prog E C (o::D) a w:=by
 subst H;exact wpList_store_mid G T x y J b pre.length vs.toArray N K (A.there (by simp[j,g.1])) (by rw[M];simp[g.1]) (all_oneCell_toArray g.2) (by simpa using h _ (A.put (by rw[g.1,j])) ⟨pre.length,vs,z⟩)
section
variable {k l c:Int} {s t:ByteArray} {xc yc:List Fr} {bv ev:Fr} {id sl ot:Int} {lo:Bool}
theorem jg:cO k l c s t xc yc bv ev id sl ot lo=[I k,I l,I c,.string s,.string t]++(xc++(yc++[bv,ev,I id,I sl,I ot,.bool lo])):=rfl
theorem jj:cO k l c s t xc yc bv ev id sl ot lo=(I k::I l::I c:: .string s:: .string t::xc)++(yc++[bv,ev,I id,I sl,I ot,.bool lo]):=by simp[cO]
end
theorem Ap{ok:Nat->Prop}{cs:List Fr}{k l c:Int}{x y:Ex}{body els:List St}{id sl ot:Int}{lo:Bool}(U:∀c,ok c->c<w.1.size)(hI:hz D)(hl:D.locals<=32)
  (H:Hid (lp w cs (cO k l c s t l2 l3 (.slice a0 body.length j) (.slice a1 els.length g) id sl ot lo) W))(HD:Hid (aG (jp ok w W) W D cs))(HX:Hid (ExL (w.1.size+4<=·) W l2 x))(HY:Hid (ExL (w.1.size+4<=·) W l3 y))
  (HB:Hid (aF body.length j/\aE (fun _=>True) w a0 0 body))(HE:Hid (aF els.length g/\aE (fun _=>True) w a1 0 els))(IB:Hid (qR body))(IE:Hid (qR els)){R:DF×St}
  (Q:Hid (R=((DF.CV els (DF.CV body (D.DR (l,c) k s t sl ot lo).1).1).1,.mk k l c s t x y (DF.CV body (D.DR (l,c) k s t sl ot lo).1).2 (DF.CV els (DF.CV body (D.DR (l,c) k s t sl ot lo).1).1).2 id (D.DR (l,c) k s t sl ot lo).2.1 (D.DR (l,c) k s t sl ot lo).2.2.1 (D.DR (l,c) k s t sl ot lo).2.2.2)))(hU:l4.length=169:=by rfl):
  FR prog (Jp 8 (f81.body.getD .skip)) (Gb prog f81 (zF ok w R)) ⟨(v0::v1::Pt w.1.size::Pt (w.1.size+1)::Pt (w.1.size+1+1)::Pt (w.1.size+1+1+1)::I k::I ((eu k).1:Int)::I ((eu k).2:Int)::l4).toArray,[]⟩ W:=by
 revert l4;apply aN;iterate 169 intro _
 change FR _ _ _ _ _;obtain⟨du,d5,e7⟩:=cd;obtain⟨j0,i7,i8⟩:=hY;obtain⟨i9,z9,h4,h0,h1⟩:=em;obtain⟨i4,z4,g9,i2,a8⟩:=jI;have a4:=O HX.o.cells;have a6:=O HY.o.cells;have d2:=O HD.o.cells;have F:=O (bR z a4.o.1 a6.o.1 (C:=cO k l c s t l2 l3 (.slice a0 body.length j) (.slice a1 els.length g) id sl ot lo));rw[oM]at Q;obtain⟨⟨a,b⟩,Y⟩:∃q,eu k=q:=⟨_,z⟩;rw[Y];conv in (Jp _ _)=>whnf
 refine wk fun KK d9=>?_;by_cases ha:a=0
 .subst ha;have Z:D.stW (l,c) k s sl lo=(D,sl,lo):=by unfold DF.stW;rw[Y];rfl
  rw[Z]at Q;clear Z Y F;go_wp2_with fail;refine d9.o _ _ ?_;exact xz U hI hl H HD HX HY HB HE IB IE Q
 .skip;have a8:W.cell? ⟨w.1.size+1,3,none⟩=some (.string s):=by rw[H.o.s.cell];exact F.o.2.2.2.1
  have h8:W.cell? ⟨w.1.size+1,1,none⟩=some (I l):=by rw[H.o.s.cell];exact F.o.2.1
  have h9:W.cell? ⟨w.1.size+1,2,none⟩=some (I c):=by rw[H.o.s.cell];exact F.o.2.2.1
  obtain⟨⟨D3,n⟩,a9⟩:∃q,D.CZ s a b (l,c)=q:=⟨_,z⟩;have b4:=eV D s a b (l,c) (jp ok w W) cs W (fun c hc=>hc.2) HD.o;rw[a9]at b4;have Z:D.stW (l,c) k s sl lo=(D3,(n.slot:Int),decide (n.kind=100)):=by unfold DF.stW;rw[Y];rw[aD (show a≠0 from ha),a9]
  have a3:=mx D (l,c) k s sl lo;rw[Z]at a3 Q;have f4:Hid (hz D3/\D3.locals<=32):=O ⟨hI.EK a3,by rw[a3.loc];exact hl⟩;have e1:=Q;have j2:¬ (a:Int)=0:=by omega
  clear Q Z a3 Y hI hl;clear a9;go_wp2_with (first| ((with_reducible refine gU _ (.load 109 _) ?_);refine ac d5 e7 aj z (.tmp 2) z w.1.size cs z (O H.o.f) d2.o.1 ?_)|fail);refine b4.mono ?_;clear b4;rintro e W6 ⟨⟨ds,rfl,hd⟩,A⟩;have d7:=O (H.o.below A);have e0:Hid (ExL (zL w W) W6 l2 x):=O (ExL.Do HX.o.bound A);have f9:Hid (ExL (zL w W) W6 l3 y):=O (ExL.Do HY.o.bound A);have b5:=O hd.cells;have f8:=O hd;have e4:=O A.size;have a2:=O H.o.lt;clear A hd H HX HY HD a8 h8 h9 F;go_wp2_with (first
   | ((with_reducible refine cp 9 (.alloc 109) ?_);obtain⟨bA,d4⟩:∃b,W6.1.size=b:=⟨_,z⟩;refine ag h4 h0 h1 z z bA d4 ?_;intro W7 k7 A s7;have K7:=O k7;have f5:=O (d7.o.below A);have b8:=O (e0.o.Do A);have d3:=O (f9.o.Do A);have f3:=O (f8.o.below A);have K:=O (show W.1.size<=bA by have:=e4.o;omega);clear k7 A d7 f8 e0 f9 d4 e4)
   | ((with_reducible refine cp 10 (.alloc 114) ?_);obtain⟨S,g2⟩:∃b,W7.1.size=b:=⟨_,z⟩;refine ag g9 i2 a8 z z S g2 ?_;intro W8 k8 A s8;have K8:=O (EQ (K7.o.below A) k8);have e3:=O (f5.o.below A);have b7:=O (b8.o.Do A);have g4:=O (d3.o.Do A);have f2:=O (f3.o.below A);have X:=O (show bA+1=S by omega);clear k8 A f5 f3 b8 d3 K7 g2)
   | ((with_reducible refine cY (.store 109 (.tmp 9) _) ?_);refine af aj z (.tmp 9) (.tmp 72) z bA ds _ z z K8.o.1 z b5.o ?_;intro W9 k9 M;have hA:=K.o;have b6:=a2.o;have K9:=O (EQ k9 (M.CV (by have:=X.o;omega) K8.o.2));have g5:=O (e3.o.ch (by omega) M);have d0:=O (M.ex (fun e E=>by have:=E.2;omega) b7.o);have e2:=O (M.ex (fun e E=>by have:=E.2;omega) g4.o);have e5:=O (M.df (fun e=>by have:=e.2;omega) f2.o);clear k9 M e3 f2 b7 g4 K8 hA b6)
   | ((with_reducible refine cY (.store 114 _ _) ?_);refine af cN z (.tmp 10) (.tmp 73) z S n.cells _ z z K9.o.2 z (gj n) ?_;intro j4 c8 N;have hA:=K.o;have h3:=X.o;have b6:=a2.o;have a5:=O (EQ (N.CV (by omega) K9.o.1) c8);have a7:=O (g5.o.ch (by omega) N);have f0:=O (N.ex (fun e E=>by have:=E.2;omega) d0.o);have e9:=O (N.ex (fun e E=>by have:=E.2;omega) e2.o);have d8:=O (N.df (fun e=>by have:=e.2;omega) e5.o);clear c8 N g5 e5 d0 e2 K9 hA h3 b6)
   | ((with_reducible refine cp 74 (.load 109 _) ?_);refine ac d5 e7 aj z (.tmp 9) z bA ds z (O a5.o.1) b5.o.1 ?_)
   | ((with_reducible refine cY (.store 109 (.tmp 2) _) ?_);refine af aj z (.tmp 2) (.tmp 74) z w.1.size ds _ z z a7.o.f d2.o.1 b5.o ?_;intro V g6 J;have f6:=O (J.CV (by have:=K.o;have:=X.o;have:=a2.o;omega) a5.o.2);have G:=O (a7.o.Dc g6 J);have h6:=O (J.Dz (ExL.CQ (fun e E=>E.1) f0.o) (by omega));have i0:=O (J.Dz (ExL.CQ (fun e E=>E.1) e9.o) (by omega));have g8:=O (bx U (fu d8.o (by have:=K.o;have:=a5.o.1.lt;omega)) J (FL _) (by omega));clear g6 J a7 d8 f0 e9 a5;have n1:V.cell? ⟨S,1,none⟩=some (I n.kind):=(by rw[f6.o.cell];rfl);have n2:V.cell? ⟨S,2,none⟩=some (I n.slot):=(by rw[f6.o.cell];rfl);have F:=O (bR z a4.o.1 a6.o.1 (C:=cO k l c s t l2 l3 (.slice a0 body.length j) (.slice a1 els.length g) id sl ot lo));have j5:V.cell? ⟨w.1.size+1,22,none⟩=some (I sl):=(by rw[G.o.s.cell];exact F.o.2.2.2.2.2.2.2.2.1);have j1:V.cell? ⟨w.1.size+1,23,none⟩=some (I ot):=(by rw[G.o.s.cell];exact F.o.2.2.2.2.2.2.2.2.2.1);have i5:V.cell? ⟨w.1.size+1,24,none⟩=some (.bool lo):=(by rw[G.o.s.cell];exact F.o.2.2.2.2.2.2.2.2.2.2);have j3:=G.o.s.frozen 22;have i6:=G.o.s.frozen 23;have j6:=G.o.s.frozen 24;have i3:=O (show S≠w.1.size+1 by have:=K.o;have:=X.o;have:=a2.o;omega);clear X K s7 s8 F)
   |fail)
  have d1:((n.kind:Int)==100)=decide (n.kind=100):=by rw[Bool.eq_iff_iff];simp;omega
  rw[<-d1]at e1;have g7:=cC (k:=k) (l:=l) (c:=c) (s:=s) (t:=t) (bv:= .slice a0 body.length j) (ev:= .slice a1 els.length g) (id:=id) (sl:=sl) (ot:=ot) (lo:=lo) a4.o.1 a6.o.1 (.slice none 0 0) ((n.slot:Int)) (false);have g0:=(G.o).Dw ((G.o).s.set1 22 (I n.slot)) (Ch.one 22 _ _);rw[g7.2.2.2.1]at g0;have e6:=bx U (g8) (Ch.one (b:=w.1.size+1) 22 (I n.slot) _) (by omega) (by omega);have f1:=(Ch.one (b:=w.1.size+1) 22 (I n.slot) _).Dz (h6) (by omega);have d6:=(Ch.one (b:=w.1.size+1) 22 (I n.slot) _).Dz (i0) (by omega)
  have e8:=cC (k:=k) (l:=l) (c:=c) (s:=s) (t:=t) (bv:= .slice a0 body.length j) (ev:= .slice a1 els.length g) (id:=id) (sl:=(n.slot:Int)) (ot:=ot) (lo:=lo) a4.1 a6.1 (.slice none 0 0) (0) ((n.kind:Int)==100);have g1:=(g0).Dw ((g0).s.set1 24 (.bool ((n.kind:Int)==100))) (Ch.one 24 _ _);rw[e8.2.2.2.2.2]at g1;have f7:=bx U (e6) (Ch.one (b:=w.1.size+1) 24 (.bool ((n.kind:Int)==100)) _) (by omega) (by omega);have b9:=(Ch.one (b:=w.1.size+1) 24 (.bool ((n.kind:Int)==100)) _).Dz (f1) (by omega);have g3:=(Ch.one (b:=w.1.size+1) 24 (.bool ((n.kind:Int)==100)) _).Dz (d6) (by omega);have h7:=O (g1.below (FB _ _).drew);have i1:=O (eN f7 (FB _ _).drew);have h5:=O (ExL.Do b9 (FB _ _).drew)
  have h2:=O (ExL.Do g3 (FB _ _).drew);clear e8 g1 f7 b9 g3 g7 g0 e6 f1 d6;clear d1;go_region;all_goals
   generalize (Gc _ _ _).drew=Wz at *;go_wp2;apply d9;exact xz U f4.1 f4.2 h7 i1 h5 h2 HB HE IB IE e1
theorem tc(k l c:Int)(s t:ByteArray)(x y:Ex)(body els:List St)(id sl ot:Int)(lo:Bool)(hx:x.sm)(hy:y.sm)(i5:qR body)(f3:qR els)(ok:Nat->Prop)(D:DF)(cs H:List Fr)(w:Fk)(M:∀c,ok c->c<w.1.size)(hD:aG ok w D cs)(hI:hz D)(h0:D.CR=0)(hS:bX (fun _=>True) w H (.mk k l c s t x y body els id sl ot lo)):
  Jq prog 81 #[.agg cs.toArray,.agg H.toArray] w (zF ok w (DF.st (.mk k l c s t x y body els id sl ot lo) D)):=by
 let ⟨du,b8,d0⟩:=cd
 let ⟨f2,h4,g8⟩:=en
 let ⟨k9,e7,h8⟩:=hj
 let ⟨i9,z9,j9,j4,j7⟩:=em
 let ⟨i6,z6,j5,j1,a8⟩:=ki
 unfold bX at hS;let ⟨S,yc,ab,ae,d2,d4,g4,d5,e6,i7,F,f1,Q⟩:=hS
 have N:=O d5.cells;have a1:=O e6.cells;have HX:=O d5;have HY:=O e6;have HB:=O (EQ i7 F);have HE:=O (EQ f1 Q);have IB:=O i5;have IE:=O f3;have f8:=O (EQ hx hy);have c9:Hid (H=cO k l c s t S yc (.slice ab body.length d2) (.slice ae els.length d4) id sl ot lo):=O g4;have b9:Hid (H.length=25/\∀v∈H,v.oneCell'=true):=O (by rw[c9.o];exact hk N a1);have g3:=hD.c7.1;have j2:=O hD.cells;have HD:=O hD;have HI:=O hI;have l7:=O (hI.ok h0).1;obtain⟨R,E⟩:=eX (DF.st (.mk k l c s t x y body els id sl ot lo) D);rw[E];rw[DF.st]at E;have HR:=O E;have j6:=O g3;clear E g4 d5 e6 i7 F f1 Q i5 f3 hx hy hD hI h0 g3;go_enter func81,ntmps81;refine wk fun G g=>?_;go_wp2_with (first
  | ((with_reducible refine cp 2 (.box 109 _) ?_);refine aJ z (.tmp 0) z cs z w.1.size z ?_;intro W1 k1 b1 f0;have K1:=O k1;have B1:=O b1;clear k1 b1)
  | ((with_reducible refine cp 3 (.box 60 _) ?_);refine aJ z (.tmp 1) z H z (w.1.size+1) f0 ?_;intro W2 k2 b2 s2;have K2:=O k2;have B2:=O b2;clear k2 b2)
  | ((with_reducible refine cp 4 (.alloc 109) ?_);refine ag j9 j4 j7 z z (w.1.size+1+1) s2 ?_;intro W3 k3 b3 s3;have K3:=O k3;have B3:=O b3;clear k3 b3)
  | ((with_reducible refine cp 5 (.alloc 60) ?_);refine ag j5 j1 a8 z z (w.1.size+1+1+1) s3 ?_;intro Y k4 b4 s4;have K4:=O k4;have B4:=O b4;clear k4 b4)
 )
 apply g;clear g G;have e5:=B1.trans (B2.mono B1.size);have e2:=e5.trans (B3.mono e5.size);have d3:=e2.trans (B4.mono e2.size);have U:Hid (lp w cs H Y):=O ⟨d3,((K1.below B2).below B3).below B4,(K2.below B3).below B4,K3.below B4,K4⟩;have d1:Hid (aG (jp ok w Y) Y D cs):=O ((HD.below d3).CQ fun c K=>⟨.inl K,FJ (M c K) d3.size⟩);clear B1 B2 B3 B4 K1 K2 K3 K4 e5 e2 d3 f0 s2 s3 s4 HD;have c7:=(U.f.cell 7).trans j6;refine wk fun G g=>?_;by_cases h5:512<=D.P.stmts
 .have k6:(512:Int)<=(D.P.stmts:Int):=by omega
  have E:=HR.o;rw[aD h5]at E;have d8:=O E.symm;clear HR E h5;go_wp2;have l9:prog.follows .mixedOrders=true:=by kernel_rfl
  obtain⟨m1,hV⟩:=eX Y.drew;have b7:Hid (lp w cs H m1):=O (by rw[<-hV];exact U.below (FB _ Y).drew);have i3:Hid (aG (jp ok w m1) m1 D cs):=O (by rw[<-hV];exact eN d1 (FB _ Y).drew);clear U d1 c7;apply al [6] (fun W=>ak W w.1.size 109 cs/\ak W (w.1.size+1) 60 H) l9;rw[hV];clear hV;have b6:Hid (ak m1 w.1.size 109 cs/\ak m1 (w.1.size+1) 60 H):=O ⟨b7.f,b7.s⟩;have A:=O (bR c9 N.1 a1.1);refine tl 0 19 b6 109 2 w.1.size 0 cs du (fun W hS=>hS.1.whole) b8 d0 (by rw[j2.o.1];exact aj) ?_;refine fa 1 ?_;refine fK _ 2 (fun W1 h9=>EQ ((h9.2.cell 1).trans A.o.2.1) ((h9.2.cell 2).trans A.o.2.2.1)) ?_;refine tl 4 23 b6 60 3 (w.1.size+1) 0 H k9 (fun W hS=>hS.2.whole) e7 h8 (by rw[b9.o.1];exact ar) ?_
  refine nm ?_;refine oD 3 fun a9 X=>?_;go_simp;apply (bP D _ 134 (l,c) cs m1 i3).mono;rintro e V2 ⟨⟨es,rfl,hd⟩,F⟩;have a2:=O (b7.below F);have j3:=O (fu hd F.size);have f6:=O hd.cells;apply X _ _ (fun _=>⟨a2.f,a2.s⟩);clear X a9 hd F b7 i3;refine oD 5 fun a9 X=>?_;refine an aj (.tmp 4) (.tmp 22) z (w.1.size+1+1) es _ z z a2.z z f6 ?_;intro W7 k7 c7;have K7:=O (EQ k7 c7);clear k7 c7;apply X _ _ (fun _=>⟨K7.2.CV (by omega) a2.f,K7.2.CV (by omega) a2.s⟩);clear X a9;refine oD 6 fun a9 X=>?_;refine an ar (.tmp 5) (.tmp 23) z (w.1.size+1+1+1) H _ z z (K7.2.CV (by omega) a2.y) z b9 ?_;intro W8 k8 c8;have K8:=O (EQ k8 c8);clear k8 c8;apply X _ _ nofun;clear X a9;simp only[Gf];refine dn ?_
  have f4:zF ok w R (.returned (.tuple #[.agg es.toArray,.agg H.toArray])) W8:=by
   rw[d8.o];refine⟨⟨es,H,z,(K8.2.df (fun e=>?_) (K7.2.df (fun e=>?_) j3)).CQ fun c K=>?_,b9,fun h=>?_⟩,K8.2.below (by omega) (K7.2.below (by omega) a2.b)⟩
   .rcases e.1 with e|e
    .have:=M _ e;omega
    .omega
   .rcases e.1 with e|e
    .have:=M _ e;omega
    .omega
   .rcases K.1 with h|h
    .exact .inl h
    .exact .inr (by omega)
   .exfalso;have h0:(D.DA 134 (l,c)).CR=0:=h;have:=dD (D:=D) (e:=134) (p:=(l,c));by_cases e:D.CR=0
    .have h2:=(this e (by decide)).2.1;rw[h0]at h2;cases h2
    .rw[eS e]at h0;exact e h0
  have f5:=K8.2.CV (show w.1.size+1+1≠w.1.size+1+1+1 by omega) K7.1;have HF:=O (EQ f5 f4);clear f4 f5;go_wp2;exact ge b8 d0 aj e7 h8 ar HF.1 f6.1 K8.1 b9.1 z z z z HF.2
 .have k6:¬ (512:Int)<=(D.P.stmts:Int):=by omega
  have E:=HR.o;rw[am h5]at E;have d8:=O E.symm;have j8:=O (pM HI h5);clear HR E h5;go_wp2;apply g;clear g G;have A:=O (bR c9 N.1 a1.1);have i8:=(U.s.cell 21).trans A.2.2.2.2.2.2.2.1;have l8:=U.s.frozen 21;have f7:=U.f.frozen 7;have m0:(D.P.stmts:Int)<512:=by omega
  refine wk fun G g=>?_;go_wp2;apply g;clear g G;refine wk fun G g=>?_;go_wp2;apply g;clear g G c7 i8 l8 f7 A;have g1:=U.Dw (U.s.set1 21 (I D.P.stmts)) (Ch.one 21 _ Y);rw[c9.o,(cC N.o.1 a1.o.1 (.slice none 0 0) (D.P.stmts:Int) false).2.2.1]at g1;have h6:=bx M d1 (Ch.one (b:=w.1.size+1) 21 (I D.P.stmts) Y) (by omega) (by omega);have g2:=g1.Dc (g1.f.set1 7 (I ((D.P.stmts:Int)+1))) (Ch.one 7 _ _);have g6:=aG.inc (bx M h6 (Ch.one (b:=w.1.size) 7 (I ((D.P.stmts:Int)+1)) _) (FL _) (by omega));have Z:=O g2;have e3:=O g6;clear g1 h6 g2 g6 U d1;generalize Gc (Gc _ _ _) _ _=W5 at *;generalize cs.set 7 _=g7 at *;have e8:=O e3.cells;obtain⟨⟨D5,l6⟩,e0⟩:∃q,DF.ex (l,c) y D.inc=q:=⟨_,z⟩
  have d6:=mF (l,c) y f8.2 (jp ok w W5) D.inc g7 yc W5 (fun c K=>K.2) e3 (ExL.sub HY Z.b);rw[e0]at d6;have i2:=O e0;clear e0;have A:=O (bR z N.1 a1.1 (C:=cO k l c s t S yc (.slice ab body.length d2) (.slice ae els.length d4) (D.P.stmts:Int) sl ot lo));have q1:=(Z.s.cell 1).trans A.2.1;have q2:=(Z.s.cell 2).trans A.2.2.1;have b5:W5.rangeAt (w.1.size+1) 12 yc:=by have h:=Z.s;rw[jj]at h;have h2:=ak.range h z;rw[show (Gr .i64 k::I l::I c:: .string s:: .string t::S).length=12 by simp[N.o.1]]at h2;exact h2
  have a4:=O b5;clear b5;refine wk fun G g=>?_;go_wp2_with (first
   | ((with_reducible refine gU _ (.load 109 _) ?_);refine ac b8 d0 aj z (.tmp 2) z w.1.size g7 z (O Z.f) e8.1 ?_)
   | ((with_reducible refine gU _ (.load 58 _) ?_);refine Gn z 58 (.tmp 36) z (w.1.size+1) 12 z yc f2 a4 h4 g8 (by rw[a1.o.1];exact be) ?_)
  )
  refine d6.mono ?_;clear d6;rintro e V5 ⟨⟨Ai,ys,rfl,hd,Q⟩,F⟩;have HT:=O (Z.below F);have a3:=O (fu hd F.size);have e4:=O hd.cells;have e9:Hid (ExL (w.1.size+4<=·) V5 ys l6):=O (ExL.CQ (fun c K=>by have h1:W5.1.size<=c:=K;have:=Z.lt;show w.1.size+4<=c;omega) Q);have d9:=O Q.cells;clear hd Q F q1 q2 a4 A Z e3;go_wp2_with (first
   | ((with_reducible refine cY (.store 109 (.tmp 2) _) ?_);refine af aj z (.tmp 2) (.tmp 41) z w.1.size Ai _ z z HT.o.f e8.o.1 e4.o ?_;intro U5 J j;have a0:=O (HT.o.Dc J j);have a6:=O (bx M a3.o j (FL _) (by omega));have a7:=O (j.Dz e9.o (by omega));have a5:=O (show ak U5 (w.1.size+1) 60 ((I k::I l::I c:: .string s:: .string t::S)++(yc++_)) by rw[<-jj];exact a0.o.s);clear J j HT a3 e9)
   | ((with_reducible refine cY (.store 58 _ _) ?_);refine dc be z (.tmp 43) (.tmp 42) z (w.1.size+1) 12 ys z z a5 (by simp[N.o.1]) a1.1 d9 ?_;intro T5 J j;rw[<-jj]at J;have V:=O (a0.Dw J j);have h7:=O (bx M a6 j (by omega) (by omega));have h3:=O (j.Dz a7 (by omega));clear J j a0 a6 a7 a5)
  )
  apply g;clear g G;obtain⟨⟨D6,l2⟩,e1⟩:∃q,DF.ex (l,c) x D5=q:=⟨_,z⟩;have a8:=mF (l,c) x f8.1 (jp ok w T5) D5 Ai S T5 (fun c K=>K.2) h7 (ExL.sub HX V.b);rw[e1]at a8;have i4:=O e1;clear e1;have A:=O (bR z N.1 d9.1 (C:=cO k l c s t S ys (.slice ab body.length d2) (.slice ae els.length d4) (D.P.stmts:Int) sl ot lo));have q1:=(V.s.cell 1).trans A.2.1;have q2:=(V.s.cell 2).trans A.2.2.1;have b5:T5.rangeAt (w.1.size+1) 5 S:=by have h:=V.s;rw[jg]at h;have h2:=ak.range h z;exact h2
  have a4:=O b5;clear b5;refine wk fun G g=>?_;go_wp2_with (first
   | ((with_reducible refine gU _ (.load 109 _) ?_);refine ac b8 d0 aj z (.tmp 2) z w.1.size Ai z (O V.f) e4.o.1 ?_)
   | ((with_reducible refine gU _ (.load 58 _) ?_);refine Gn z 58 (.tmp 46) z (w.1.size+1) 5 z S f2 a4 h4 g8 (by rw[N.o.1];exact be) ?_)
  )
  apply a8.mono;clear a8;rintro e V6 ⟨⟨BL,xs,rfl,hd,Q⟩,F⟩;have HT:=O (V.below F);have a3:=O (fu hd F.size);have j0:=O hd.cells;have i0:Hid (ExL (w.1.size+4<=·) V6 xs l2):=O (ExL.CQ (fun c K=>by have h1:T5.1.size<=c:=K;have:=V.lt;show w.1.size+4<=c;omega) Q);have i1:=O (h3.Do F);have g5:=O Q.cells;clear hd Q F q1 q2 a4 A V h7 h3;go_wp2_with (first
   | ((with_reducible refine cY (.store 109 (.tmp 2) _) ?_);refine af aj z (.tmp 2) (.tmp 51) z w.1.size BL _ z z HT.o.f e4.o.1 j0.o ?_;intro U6 J j;have a0:=O (HT.o.Dc J j);have a6:=O (bx M a3.o j (FL _) (by omega));have a7:=O (j.Dz i0.o (by omega));have f9:=O (j.Dz i1.o (by omega));have a5:=O (show ak U6 (w.1.size+1) 60 ([I k,I l,I c,.string s,.string t]++(S++_)) by rw[<-jg];exact a0.o.s);clear J j HT a3 i0 i1)
   | ((with_reducible refine cY (.store 58 _ _) ?_);refine dc be z (.tmp 53) (.tmp 52) z (w.1.size+1) 5 xs z z a5 z N.1 g5 ?_;intro T6 J j;rw[<-jg]at J;have g9:=O (a0.Dw J j);have l4:=O (bx M a6 j (by omega) (by omega));have l5:=O (j.Dz a7 (by omega));have l3:=O (j.Dz f9 (by omega));clear J j a0 a6 a7 a5 f9)
  )
  apply g;clear g G;have A:=O (bR z g5.1 d9.1 (C:=cO k l c s t xs ys (.slice ab body.length d2) (.slice ae els.length d4) (D.P.stmts:Int) sl ot lo));have q0:=(g9.s.cell 0).trans A.1;refine wk fun G g=>?_;go_wp2;apply g;clear g G q0 A;refine wk fun G g=>?_;have hw:=rx k T6;go_wp2_with fail;apply hw.mono;clear hw;rintro e W8 ⟨rfl,rfl⟩;go_wp2;apply g;clear g G;have d7:=(go (l,c) y D.inc).trans (go (l,c) x _);rw[i2.o,i4.o]at d7;have E:=d8.o;simp only[i2.o,i4.o]at E;have k0:=O E;exact Ap M (j8.EK d7) (by rw[d7.loc];exact l7) g9 l4 l5 l3 HB HE IB IE k0
theorem uh{o:Oper}{a:Act}{A:Act->Fk->Prop}{M:Exit->Act->Fk->Prop}{F:Nat}(K:(prog.funcs[F]?).map (fun j=> (j.name== "runtime.NumGoroutine",j.body.isNone))=some (false,false)){x y:Operand}{E:Array GA}(C:o.op= .call {callee:= .value (.func F),args:= #[x,y],argTypes:=E}){vx vy:Fr}(D:a.eval x=vx)(J:a.eval y=vy){R:GP->Fk->Prop}(Q:Jq prog F #[vx,vy] W R)
  (U:∀e g,R e g->∃v,e= .returned v/\A (a.put o.dst v) g):o.wp prog a W A M:=by
 obtain⟨j,S,w⟩:=Ga.1 K;simp only[Prod.mk.injEq]at w;have H:(execOp a.eval o).run prog W= .ok (.enter F #[vx,vy]) W:=by have G:a.eval (.func F)= .func (.func F) #[] #[]:=z;unfold execOp;simp only[C,resolve,invoke,List.map_toArray,List.map_cons,List.map_nil,D,J,G,Deferred.ofValue,Sem.run_bind,Sem.run_pure,Result.andThen_ok,callFunc,run_program,S,w.1,w.2,FN,if_false];simp
 unfold Oper.wp;rw[H,Oper.upon_enter];refine Q.mono fun e g h=>?_;obtain⟨v,rfl,N⟩:=U e g h;exact N
theorem yd{T:GA}{d:TypeDesc}(j:prog.underlying T=some d)(K:d.isRow=true)(w:(prog.info? T).map (·.size)=some n){g:Func}{R:GP->Fk->Prop}{s u:Tmp}{cs:List Fr}(h:ak W b T cs)(C:cs.length=n)(F:g.results= #[.cell s T,.tmp u])
  (J:A.tmps.getD s Gm=Pt b)(E:A.tmps.getD u Gm=v)(hd:A.defers=[])(M:R (.returned (.tuple #[.agg cs.toArray,v])) W):Gb prog g R .ret A W:=by
 have H:A.tmps[s]?.getD Gm=Pt b:=by rw[<-J];simp
 have G:A.tmps[u]?.getD Gm=v:=by rw[<-E];simp
 have D:=run_loadVar_mid (P:=prog) W b 0 T cs d h.whole j K (by rw[C];exact w);refine bodyPost_ret (v:= .tuple #[.agg cs.toArray,v]) ?_ hd M;simp[results,F,H,G,asAddr,D]
theorem xB(D:DF)(p:Int×Int)(k:Int)(s t:ByteArray)(sl ot:Int)(lo:Bool):(D.DR p k s t sl ot lo).1.P=D.P:=by
 rw[oM];unfold DF.stM;have g:=(mx D p k s sl lo).P;split
 .show (DF.DD _ p).P=D.P;rw[(ko _ p).1.P,(lf _ p s).P,g]
 .split
  .show (DF.CZ _ _ _ _ _).1.P=D.P;rw[(dX _ _ _ _ _).P,g]
  .split
   .show (DF.CZ _ _ _ _ _).1.P=D.P;rw[(dX _ _ _ _ _).P,g]
   .exact g
mutual
theorem tj:∀ (s:St) (D:DF),D.P.stmts<=(DF.st s D).1.P.stmts/\((DF.st s D).1.CR=0->D.P.stmts+1<=(DF.st s D).1.P.stmts)
 | .mk k l c s t x y body els id sl ot lo,D=>by
  rw[DF.st]
  split
  .refine⟨Nat.le_of_eq (congrArg Pg.stmts (gb D (e:=134) (by decide) (l,c)).P.symm),fun h=>?_⟩
   exfalso
   have h':(D.DA 134 (l,c)).CR=0:=h
   unfold DF.DA at h'
   split at h'
   .have h2:(134:Int)=0:=h'
    cases h2
   .exact absurd h' (by assumption)
  .have h1:=mR body (((DF.ex (l,c) x (DF.ex (l,c) y D.inc).1).1.DR (l,c) k s t sl ot lo).1)
   have h2:=mR els ((DF.Dp body ((DF.ex (l,c) x (DF.ex (l,c) y D.inc).1).1.DR (l,c) k s t sl ot lo).1).1.back ((DF.ex (l,c) x (DF.ex (l,c) y D.inc).1).1.DR (l,c) k s t sl ot lo).1)
   rw[xB,(go (l,c) x _).P,(go (l,c) y _).P]at h1
   have h3:D.P.stmts+1<=(DF.Dp body ((DF.ex (l,c) x (DF.ex (l,c) y D.inc).1).1.DR (l,c) k s t sl ot lo).1).1.P.stmts:=h1
   have h4:=FU h3 h2
   exact⟨FU (Nat.le_succ _) h4,fun _=>h4⟩
theorem mR:∀ (r:List St) (D:DF),D.P.stmts<=(DF.Dp r D).1.P.stmts
 | [],D=>by rw[DF.Dp];exact FL _
 |s::r,D=>by
  rw[DF.Dp]
  split
  .exact FL _
  .exact FU (tj s D).1 (mR r _)
end
def lY:El Unit:=⟨60,25,fun _ _ cs _=>cs.length=25/\∀v∈cs,v.oneCell'=true,fun _ h=>h,fun _ h=>h,fun h=>h,fun h=>h⟩
theorem aL.any{B:Nat}{l:List St}(h:aL fn B w v l):aL lY B w v (l.map fun _=> ()):=by
 let ⟨cells,D,C,A⟩:=h
 refine⟨cells,by simpa using D,by rw[List.length_map];exact C,fun i cs x g j=>?_⟩;have E:i<l.length:=by have:=(List.getElem?_eq_some_iff.1 j).1;simpa using this
 exact fn.cells (A i cs l[i] g (FC E))
theorem uO{B:Nat}{x:St}(h:bX (fun c=>j<=c/\c<n) W l2 x)(A:∀g,v.ownBlock=some g->g<j)(C:B<=j):fn.L (fun c=>B<=c/\v.ownBlock≠some c) W l2 x:=bX.CQ (fun c w=>⟨by have:=w.1;omega,fun e=>by have:=A c e;have:=w.1;omega⟩) h
structure Bq (w:Fk) (cs:List Fr) (W:Fk):Prop where
 b:FM w.1.size w W
 f:ak W w.1.size 109 cs
 z:ak W (w.1.size+1) 109 nx
def xP(ok:Nat->Prop)(w W:Fk)(c:Nat):Prop:=(ok c∨w.1.size+2<=c)/\c<W.1.size
section
variable {w W W':Fk} {cs cs':List Fr} {ok:Nat→Prop} {D:DF}
theorem Bq.lt(h:Bq w cs W):w.1.size+2<=W.1.size:=by have:=h.z.lt;omega
theorem Bq.Dy(h:Bq w cs W)(g:FM (w.1.size+2) W W'):Bq w cs W':=⟨h.b.trans (g.mono (by omega)),h.f.of (g.block _ (by omega)),h.z.of (g.block _ (by omega))⟩
theorem Bq.below(h:Bq w cs W)(g:bL W W'):Bq w cs W':=h.Dy (g.mono h.lt)
theorem Bq.Dc(h:Bq w cs W)(j:ak W' w.1.size 109 cs')(g:Ch w.1.size W W'):Bq w cs' W':=⟨g.below rl h.b,j,g.CV (by omega) h.z⟩
theorem rR(h:aG (xP ok w W) W D cs)(g:bL W W'):aG (xP ok w W') W' D cs:=(h.below g).CQ fun _ j=>⟨j.1,FJ j.2 g.size⟩
theorem qm(A:∀c,ok c->c<w.1.size)(h:aG (xP ok w W) W D cs)(g:Ch b W W')(E:w.1.size<=b)(C:b<w.1.size+2):aG (xP ok w W') W' D cs:=(g.df (fun e=>by
 rcases e.1 with e|e
 .have:=A _ e;omega
 .omega) h).CQ fun c j=>⟨j.1,by rw[g.size];exact j.2⟩
end
def wd(ok:Nat->Prop)(w W:Fk)(v:Fr)(c:Nat):Prop:=xP ok w W c/\v.ownBlock≠some c
def Cb(s:St):Prop:=∀ (ok:Nat->Prop) (D:DF) (cs sc:List Fr) (W:Fk),(∀c,ok c->c<W.1.size)->aG ok W D cs->hz D->D.CR=0->bX (fun _=>True) W sc s->Jq prog 81 #[.agg cs.toArray,.agg sc.toArray] W (zF ok W (DF.st s D))
theorem nd{ok:Nat->Prop}{cs:List Fr}{l:List St}(K:∀c,ok c->c<w.1.size)(C:Hid (Bq w cs W))(F:Hid (aG (xP ok w W) W D0 cs))(a8:Hid (Ro ma ok w (.slice a0 D.names.length j) D.names))(a7:(DF.Dp l D).1=D0)
  (E:Hid (D0.CR=0->g=(DF.Dp l D).2.length/\aF g n0/\aE (w.1.size+2<=·) W a1 0 (DF.Dp l D).2))(hU:l2.length=38:=by rfl):
  FR prog (Jp 4 (f42.body.getD .skip)) (Gb prog f42 (zQ ok w (DF.CV l D))) ⟨(v0::v1::Pt w.1.size::v2::Pt (w.1.size+1)::v3:: .slice a0 D.names.length j::I D.locals:: .slice a1 g n0::l2).toArray,[]⟩ W:=by
 revert l2;apply aN;iterate 38 intro _
 change FR _ _ _ _ _;let ⟨du,Z,a2⟩:=cd
 have HL:=O F.cells;obtain⟨-,V,-,vn,a3,-⟩:=F.c7;have b5:=(C.f.cell 13).trans a3;have b6:=(C.f.cell 15).trans V;have b4:=C.f.frozen;have a9:Hid (DF.CV l D=(D0.back D,(DF.Dp l D).2)):=O (by unfold DF.CV;rw[a7]);rw[a9.o];clear V a3 a7;obtain⟨U,a6⟩:=eX ((DF.Dp l D).2);rw[a6]at E ⊢;clear a9 a6;conv in (Jp _ _)=>whnf
 refine wk fun KK a4=>?_;go_wp2;apply a4;clear a4 KK b5 b6 b4;have H:=C.Dc (C.f.set1 13 (.slice a0 D.names.length j)) (Ch.one 13 _ W);have h2:=H.Dc (H.f.set1 15 (I D.locals)) (Ch.one 15 _ _);have Y:=aG.Eg (aG.CQ (fun c A=>A.1) F) (Ro.CQ (fun c A=> .inl A) (a8.keep fun b o u _ R=>ai C.b b o u R));have hd:=(Y.tight).EG D.locals;have Q:=qm K (qm K hd (Ch.one (b:=w.1.size) 13 (.slice a0 D.names.length j) W) rl (by omega)) (Ch.one (b:=w.1.size) 15 (I D.locals) _) rl (by omega);have a5:D0.CR=0->g=U.length/\aF g n0/\aE (w.1.size+2<=·) ((W.setCell ⟨w.1.size,13,none⟩ (.slice a0 D.names.length j)).setCell ⟨w.1.size,15,none⟩ (I D.locals)) a1 0 U:=fun h=>⟨(E.o h).1,(E h).2.1,(E h).2.2.keep fun c o u A R=>by have b8:w.1.size+2<=c:=A;rw[(Ch.one (b:=w.1.size) 15 (I D.locals) _).cell (by omega),(Ch.one (b:=w.1.size) 13 (.slice a0 D.names.length j) W).cell (by omega)];exact R⟩
 generalize ((cs.set 13 (.slice a0 D.names.length j)).set 15 (I D.locals))=S at *;have J:=O h2;have b7:=O Q;have M:=O a5;have N:=O Q.cells;clear H h2 Y hd Q a5 C F E;generalize Gc (Gc _ _ _) _ _=W2 at *;go_wp2_with (first
  | (with_reducible refine l1 45 109 ?_;refine ac Z a2 aj z (.tmp 2) z w.1.size S z (O J.o.f) N.o.1 ?_)
  | (with_reducible refine s0 109 ?_;refine af aj z (.tmp 4) (.tmp 45) z (w.1.size+1) S _ z z J.o.z z N.o ?_;intro W7 X c7;have G:=O (EQ X c7);clear X c7)
 )
 refine yd Z a2 aj G.o.1 N.o.1 z z z z ?_;refine⟨⟨S,a1,g,n0,z,(G.2.df (fun e=>?_) b7).CQ fun c A=>?_,fun h=>⟨(M h).1,(M h).2.1,?_⟩⟩,G.2.below (by omega) J.b⟩
 .rcases e.1 with e|e
  .have:=K _ e;omega
  .omega
 .rcases A.1 with h|h
  .exact .inl h
  .exact .inr (by omega)
 .have h0:=(M h).2.2.keep (w':=W7) fun b o v hb hv=>by have b9:=hb;rw[G.o.2.cell (by omega)];exact hv
  exact h0.CQ fun c A=>by have b8:=A;show w.1.size<=c;omega
theorem iF(l:List St)(l9:∀s∈l,Cb s):qR l:=by
 intro ok D cs w a cap b6 hD a8 j8 hI;obtain⟨du,g7,g8⟩:=cd;obtain⟨o5,j0,f7⟩:=hj;obtain⟨i9,z9,l4,l2,l6⟩:=em;obtain⟨i6,z6,p1,p0,p5⟩:=ki;obtain⟨i0,z0,f4,e3,d9,e8,m6⟩:=bJ mS;have e0:prog.underlying 44=some (.slice 60):=by kernel_rfl
 obtain⟨S,hN⟩:∃S,l.length=S:=⟨_,z⟩;rw[hN]at a8 ⊢;have HN:=O hN;have r3:=O a8;have p9:=O j8;have q1:=O l9;have HI:=O hI;have HL:=O hD.cells;obtain⟨-,j2,-,vn,k0,f9⟩:=hD.c7;obtain⟨va,q6,rfl,-⟩:=id f9;have j9:=O f9;have j5:=O (EQ j2 k0);have Y:=O hD;clear hN a8 j8 l9 hI j2 k0 f9 hD;go_enter func42,ntmps42;refine wk fun KK Q=>?_;go_wp2_with (first
  | ((with_reducible refine cp 2 (.box 109 _) ?_);refine aJ z (.tmp 0) z cs z w.1.size z ?_;intro W1 k1 b1 l3;have K1:=O k1;have B1:=O b1;clear k1 b1)
  | ((with_reducible refine cp 4 (.alloc 109) ?_);refine ag l4 l2 l6 z z (w.1.size+1) l3 ?_;intro W2 k2 b2 s2;have K2:=O k2;have B2:=O b2;clear k2 b2)
  |fail)
 refine Q.o _ _ ?_;clear Q KK;have e9:=B1.o.trans (B2.o.mono B1.o.size);have HB:Hid (Bq w cs W2):=O ⟨e9,K1.o.below B2.o,K2.o⟩;have m0:Hid (aG (xP ok w W2) W2 D cs):=O ((Y.o.below e9).CQ fun c A=>⟨.inl A,FJ (b6 c A) e9.size⟩);clear B1 B2 K1 K2 e9 l3 s2 Y;refine wk fun KK Q=>?_;go_wp2_with fail;have n9:prog.follows .mixedOrders=true:=by kernel_rfl
 obtain⟨U,R⟩:∃U,W2.drew=U:=⟨_,z⟩;have X:Hid (Bq w cs U):=O (by rw[<-R];exact HB.o.below (FB _ W2).drew);have a5:Hid (aG (xP ok w U) U D cs):=O (by rw[<-R];exact rR m0.o (FB _ W2).drew);clear HB m0;refine al [] (fun W=>W=U) n9 ?_;rw[R];clear R;have a2:Hid (U=U):=O z;refine tk 0 (some 12) a2 ?_;refine aM 1 (some 13) (v:=?_) z z (by kernel_rfl) (fun _ _ _ h=>h) a2.o (Or.inl ⟨by rfl,?_⟩) ?_;rotate_left
 .intro W1 b8;have r7:=(X.o.f.cell 13).trans j5.o.2;rw[b8];clear b8;go_simp;first|with_reducible rfl|rw[am (by omega)]
 refine tk 2 (some 14) a2 ?_;refine aM 3 (some 15) (v:=?_) z z (by kernel_rfl) (fun _ _ _ h=>h) a2.o (Or.inl ⟨by rfl,?_⟩) ?_;rotate_left
 .intro W1 b8;have r2:=(X.o.f.cell 15).trans j5.o.1;rw[b8];clear b8;go_simp;first|with_reducible rfl|rw[am (by omega)]
 refine nm ?_;refine tk 4 (some 6) a2 ?_;refine tk 5 (some 7) a2 ?_;refine nm ?_;refine dn ?_;refine Q.o _ _ ?_;clear Q KK a2;refine wk fun KK Q=>?_;go_wp2_with fail;refine Q.o _ _ ?_;clear Q KK;refine wk fun KK Q=>?_;go_wp2_with fail;go_loopg [8,9] S (fun x ov iv wr=>∃ (i:Nat) (M:DF) (a0:List Fr) (us:List Unit),i<=S/\x=S-i/\iv=I i/\us.length=i/\Hid (aL lY (w.1.size+2) wr ov us)/\Hid (M.CR=0->i<=M.P.stmts/\∃acc,acc.length=i/\aL fn (w.1.size+2) wr ov acc/\acc++(DF.Dp (l.drop i) M).2=(DF.Dp l D).2)/\Hid ((DF.Dp (l.drop i) M).1=(DF.Dp l D).1)/\Hid (Bq w a0 wr)/\Hid (aG (wd ok w wr ov) wr M a0)/\Hid (hz M))
 case atStart=>exact⟨0,D,cs,[],FX _,z,z,z,O (aL.nil _ _ _),O fun _=>⟨FX _,[],z,aL.nil _ _ _,by simp⟩,O (by simp),X,O (a5.o.CQ fun c A=>⟨A,by simp[GF]⟩),HI⟩
 case round=>
  clear X a5 HI;obtain⟨i,M,a0,us,hi,rfl,rfl,g6,HU,HG,e7,HB,Y,HI⟩:=hrel;obtain⟨G,H,rfl,f8⟩:=HU.o.form;rw[g6]at HU HG Y f8 ⊢;have i7:=O g6;have p4:=O f8;clear g6 f8;have c19:=(HB.o.f.cell 19).trans Y.o.c19;obtain⟨fl,g5⟩:∃x,M.CR=x:=⟨_,z⟩;rw[g5]at c19;have a4:=O g5;clear g5;by_cases d8:i<S
  .have q2:(i:Int)< (S:Int):=by omega
   by_cases g1:fl=0
   .subst g1;have q8:(0:Int)<=(i:Int):=by omega
    go_wp2_with fail;have p8:prog.follows .mixedOrders=true:=by kernel_rfl
    obtain⟨C,R⟩:∃U,wr.drew=U:=⟨_,z⟩;have X:Hid (Bq w a0 C):=O (by rw[<-R];exact HB.o.below (FB _ wr).drew);have a5:Hid (aG (wd ok w C (.slice G i H)) C M a0):=O (by rw[<-R];exact Y.o.below (FB _ wr).drew);have f6:Hid (aL lY (w.1.size+2) C (.slice G i H) us):=O (by rw[<-R];exact HU.o.below (FB _ wr).drew);obtain⟨k6,acc,m1,m9,f1⟩:=HG.o a4.o;have m4:Hid (aL fn (w.1.size+2) C (.slice G i H) acc):=O (by rw[<-R];exact m9.below (FB _ wr).drew);have i2:=O a5.o.cells;obtain⟨b2,l7,sc,rfl,-,j6,i8⟩:=(p9.o.Do X.o.b).at i (by rw[HN.o];exact d8);have l8:l.getD i default∈l:=by rw[FD,FC (by rw[HN.o];exact d8)];exact List.getElem_mem _
    have j7:l.drop i=l.getD i default::l.drop (i+1):=by rw[List.drop_eq_getElem_cons (by rw[HN.o];exact d8),FD,FC (by rw[HN.o];exact d8)];rfl
    have d7:=e7.o;rw[j7,DF.Dp,am (by rw[a4.o];decide)]at d7 f1;have h7:=fun W (hw:FM C.1.size C W) (hx:bX (fun _=>True) W sc (l.getD i default))=>q1.o _ l8 (wd ok w C (.slice G i H)) M a0 sc W (fun c A=>FJ A.1.2 hw.size) (a5.o.below hw) HI.o a4.o hx;have f5:=th (l.getD i default) HI.o a4.o;have g2:=(tj (l.getD i default) M).2;generalize l.getD i default=s at *;obtain⟨⟨N,s3⟩,j1⟩:∃q,DF.st s M=q:=⟨_,z⟩;rw[j1]at d7 f1 f5 g2;simp only[j1]at h7;have j3:=O h7;have m2:=O d7;have o7:=O f1;have n5:Hid (hz N):=O f5;have q4:=O g2;have m5:Hid (∀W,FM C.1.size C W->bX (fun _=>True) W sc s):=O fun W hw=>i8.keep fun b o u _ K=>ai hw b o u K
    have n6:Hid (C.rangeAt b2 (l7+i*25) sc):=O fun t v hv=>by simpa using j6 t v hv
    have q0:=O i8.cells;have b7:=O X.o.lt;have d5:=O (EQ k6 (HI.o.ok a4.o).2);have d1:=O m1;have n7:Hid (∀g,(Gd G i H).ownBlock=some g->g<C.1.size):=O fun g hg=>by obtain⟨cells,-,h5,-⟩:=f6.o.own;exact(h5.lt g hg).2
    clear HB Y HU HG m9 k6 m1 f1 d7 h7 f5 g2 i8 j6 j7 j1 l8 HI e7 c19;refine al [12] (fun W=>FM C.1.size C W) p8 ?_;rw[R];clear R;have HS:Hid (FM C.1.size C C):=O (FB _ C);refine tl 0 28 HS 109 2 w.1.size 0 a0 du (fun W hS=> (X.o.f.below hS).whole) g7 g8 (by rw[i2.o.1];exact aj) ?_;refine tk 1 (some 29) HS ?_;refine tk 2 (some 30) HS ?_;refine tk 3 (some 31) HS ?_;refine nm ?_;refine tl 4 32 HS 60 31 b2 (l7+i*25) sc o5 (fun W hS=>fun j u K=>ai hS _ _ _ (n6.o j u K)) j0 f7 (by rw[q0.o.1];exact ar) ?_;refine nm ?_
    refine sC 5 6 7 8 9 10 11 12 33 27 34 35 10 11 109 60 ⟨z,z,z,z,z,z,z,z⟩ ⟨z,z,z,z,z,z,z,z⟩ ⟨z,z,z,z,z,z,z,z⟩ ⟨z,z,z,z,z,z,z⟩ (by kernel_rfl) (by decide) ⟨by kernel_rfl,by kernel_rfl,by kernel_rfl,by kernel_rfl,by kernel_rfl,by kernel_rfl,by kernel_rfl,by kernel_rfl,by kernel_rfl,by kernel_rfl⟩ (by kernel_rfl) ⟨l4,l2,l6,aj,z⟩ ⟨p1,p0,p5,ar,z⟩ (fun d _ _ _ _ h=>by cases d<;>exact h) z (fun _ h=>h)
     (fun Wc Wd J F=>aG (fun c=>wd ok w C (.slice G i H) c∨Wc.1.size<=c) Wd N J/\(F.length=25/\∀v∈F,v.oneCell'=true)/\(N.CR=0->bX (Wc.1.size<=·) Wd F s3)) (fun _ _ _ _ h=>⟨h.1.cells,h.2.1⟩) (fun b W r6 hb hw hk=>?_) (fun bA bC J F Wc Wd W8 hA hC n8 hP f2 o9 d3 h6 g4 kA kC=>?_)
    .refine uh (vx:= .agg a0.toArray) (vy:= .agg sc.toArray) (by kernel_rfl) z (by rcases hb with rfl|⟨v,rfl⟩|⟨v,rfl⟩|⟨v,v2,rfl⟩<;>rfl) (by rcases hb with rfl|⟨v,rfl⟩|⟨v,rfl⟩|⟨v,v2,rfl⟩<;>rfl) (j3.o W hw (m5.o W hw)) fun e W2 hR=>?_;obtain⟨⟨J,F,rfl,hd,hl,hs⟩,q3⟩:=hR;exact⟨_,z,hk J F W2 ⟨hd,hl,hs⟩ q3⟩
    obtain⟨hd,k8,hs⟩:=hP;have i1:aG (wd ok w W8 (.slice G i H)) W8 N J:=(hd.tight.keep (w':=W8) fun c o u A K=>by
     have h9:=g4 c (by
      rcases A.1 with h|h
      .exact .inl h.1.2
      .exact .inr ⟨h,A.2⟩)
     rw[<-K];simp[FI,h9]).CQ fun c A=>⟨⟨by
     rcases A.1 with h|h
     .exact h.1.1
     .exact .inr (by have:=b7.o;have:=f2.size;omega),FJ A.2 h6⟩,by
     rcases A.1 with h|h
     .exact h.2
     .intro e;have:=n7.o c e;have:=f2.size;omega⟩
    have l5:N.CR=0->bX (fun c=>C.1.size<=c/\c<W8.1.size) W8 F s3:=fun h0=> ((hs h0).bound.keep (w':=W8) fun c o u A K=>by have h9:=g4 c (.inr A);rw[<-K];simp[FI,h9]).CQ fun c A=>⟨FU f2.size A.1,FJ A.2 h6⟩
    have e1:=O i1;have o8:=O l5;have f0:=O kA;have e6:=O kC;have a1:=O k8;have q9:=O d3;have a6:=O (X.o.below d3);have f3:=O (f6.o.below d3);have d4:=O (m4.o.below d3);have m3:=O (EQ hA hC);have e5:=O i1.cells;clear i1 l5 kA kC k8 hd hs d3 g4 f2 o9 h6 hA hC n8 X f6 m4 a5 m5 n6 j3 HS;simp only[hK,Gf,List.setIfInBounds_toArray,List.set_cons_zero,List.set_cons_succ];have q7:=a1.o.1;have p3:=O fun _:True=> (show us.length<=10000000 by have:=i7.o;have:=d5.o;omega);have p7:=O fun _:True=> (show acc.length<=10000000 by have:=d1.o;have:=d5.o;omega);have a8:(i:Int)+1<=1000:=by have:=d5.o;omega
    have k7:=IntWalk.wrap64_in ((i:Int)+1) (by omega);have j4:=O k7;clear k7 a8;by_cases g3:N.CR=0
    .go_wp2_with (first
      | ((with_reducible refine cp 36 (.load 109 _) ?_);refine ac g7 g8 aj z (.tmp 10) z bA J z f0 e5.o.1 ?_)
      | ((with_reducible refine cY (.store 109 _ _) ?_);refine af aj z (.tmp 2) (.tmp 36) z w.1.size J _ z z a6.o.f i2.o.1 e5.o ?_;intro W9 k9 c9;have E:=O (EQ k9 c9);clear k9 c9;have a3:=O (a6.o.Dc E.o.1 E.o.2);have a9:Hid (aG (wd ok w W9 (.slice G i H)) W9 N J):=O ((E.o.2.df (fun e=>by have:=e.1.1;have h:=b6 w.1.size;rcases this with Z|Z;exact absurd (h Z) (by omega);exact absurd Z (by omega)) e1.o).CQ fun c A=>⟨⟨A.1.1,by rw[E.o.2.size];exact A.1.2⟩,A.2⟩);have n0:=O (E.o.2.grow f3.o (by omega));have m8:=O (E.o.2.grow d4.o (by omega));have i4:=O (E.o.2.CV (by have:=m3.o;have:=b7.o;omega) e6.o);have o6:=O a3.o.lt;have m7:=O ((o8.o g3).keep (w':=W9) fun c o u A K=> (by rw[E.o.2.cell (by have:=A.1;have:=b7.o;omega)];exact K));have e4:=O (uO (v:= .slice G i H) m7.o n7.o b7.o);clear m7;clear E a6 d4 f3 e1 f0 e6)
      | ((with_reducible refine cp 38 (.load 60 _) ?_);refine ac j0 f7 ar z (.tmp 11) z bC F z i4 a1.o.1 ?_)
      | ((with_reducible refine cp 39 (.buildSlice _ _ _) ?_);refine cy z (.tmp 38) z e0 f4 e3 d9 e8 (by decide) (by decide) (.agg F.toArray) F z z a1.o.1 ?_;intro Wb kb bb sb;have KB:=O kb;have V:=O bb;clear kb bb sb;have p6:=O (m8.o.below V.o);have h8:=O (fn.keep (fun c o u _ K=>ai V.o c o u K) e4.o);have b4:=O (a3.o.below V.o);have g9:Hid (aG (wd ok w Wb (.slice G i H)) Wb N J):=O ((a9.o.below V.o).CQ fun c A=>⟨⟨A.1.1,FJ A.1.2 V.o.size⟩,A.2⟩);have i5:=O b4.o.lt;clear a3 a9 e4)
      | (at_builtin;refine bW fn z (.tmp 37) (.tmp 39) 44 z i0 z0 e0 f4 e3 d9 e8 (by decide) m6 (w.1.size+2) Wb (.slice G i H) acc z p6.o F s3 h8.o _ 60 KB.o z (p7.o trivial) i5.o ?_;intro gb p2 i3 d0 b5 a7 c8;have d6:=O d0;have b9:=O b5;have d2:=O (EQ a7 c8);clear d0 b5 a7 c8)
      |fail)
     go_roundg (S- (i+1));case measure=>omega
     case rel=>
      have q5:=d6.o.any;refine⟨i+1,N,J,(acc++[s3]).map fun _=> (),by omega,z,congrArg (Gr .i64) j4.o,by have:=d1.o;simp;omega,O (by simpa [d1.o]using q5),O fun _=>⟨?_,acc++[s3],by have:=d1.o;simp;omega,by simpa [d1.o]using d6.o,?_⟩,m2,O (b4.o.Dy b9.o),O ?_,n5⟩
      .have:=q4.o g3;have:=d5.o.1;omega
      .rw[<-o7.o];simp
      .refine(g9.o.keep (w':=i3) fun c o u A K=>?_).CQ fun c A=>⟨⟨A.1.1,FJ A.1.2 b9.o.size⟩,fun e=>?_⟩
       .rw[<-K];simp[FI,d2.o.1 c A.1.2 A.2]
       .have e2:gb=c:=by simpa [GF]using e
        subst e2;rcases d2.o.2 with h|h
        .exact A.2 h
        .have:=A.1.2;omega
    .go_wp2_with (first
      | ((with_reducible refine cp 36 (.load 109 _) ?_);refine ac g7 g8 aj z (.tmp 10) z bA J z f0 e5.o.1 ?_)
      | ((with_reducible refine cY (.store 109 _ _) ?_);refine af aj z (.tmp 2) (.tmp 36) z w.1.size J _ z z a6.o.f i2.o.1 e5.o ?_;intro W9 k9 c9;have E:=O (EQ k9 c9);clear k9 c9;have a3:=O (a6.o.Dc E.o.1 E.o.2);have a9:Hid (aG (wd ok w W9 (.slice G i H)) W9 N J):=O ((E.o.2.df (fun e=>by have:=e.1.1;have h:=b6 w.1.size;rcases this with Z|Z;exact absurd (h Z) (by omega);exact absurd Z (by omega)) e1.o).CQ fun c A=>⟨⟨A.1.1,by rw[E.o.2.size];exact A.1.2⟩,A.2⟩);have n0:=O (E.o.2.grow f3.o (by omega));have m8:=O (E.o.2.grow d4.o (by omega));have i4:=O (E.o.2.CV (by have:=m3.o;have:=b7.o;omega) e6.o);have o6:=O a3.o.lt;have e4:Hid (lY.L (fun c=>w.1.size+2<=c/\(Gd G i H).ownBlock≠some c) W9 F ()):=O a1.o;clear E a6 d4 f3 e1 f0 e6)
      | ((with_reducible refine cp 38 (.load 60 _) ?_);refine ac j0 f7 ar z (.tmp 11) z bC F z i4 a1.o.1 ?_)
      | ((with_reducible refine cp 39 (.buildSlice _ _ _) ?_);refine cy z (.tmp 38) z e0 f4 e3 d9 e8 (by decide) (by decide) (.agg F.toArray) F z z a1.o.1 ?_;intro Wb kb bb sb;have KB:=O kb;have V:=O bb;clear kb bb sb;have o0:=O (n0.o.below V.o);have h8:Hid (lY.L (fun c=>w.1.size+2<=c/\(Gd G i H).ownBlock≠some c) Wb F ()):=O a1.o;have b4:=O (a3.o.below V.o);have g9:Hid (aG (wd ok w Wb (.slice G i H)) Wb N J):=O ((a9.o.below V.o).CQ fun c A=>⟨⟨A.1.1,FJ A.1.2 V.o.size⟩,A.2⟩);have i5:=O b4.o.lt;clear a3 a9 e4)
      | (at_builtin;refine bW lY z (.tmp 37) (.tmp 39) 44 z i0 z0 e0 f4 e3 d9 e8 (by decide) m6 (w.1.size+2) Wb (.slice G i H) us z o0.o F () h8.o _ 60 KB.o z (p3.o trivial) i5.o ?_;intro gb p2 i3 d0 b5 a7 c8;have d6:=O d0;have b9:=O b5;have d2:=O (EQ a7 c8);clear d0 b5 a7 c8)
      |fail)
     go_roundg (S- (i+1));case measure=>omega
     case rel=>
      refine⟨i+1,N,J,us++[()],by omega,z,congrArg (Gr .i64) j4.o,by have:=i7.o;simp;omega,O (by simpa [i7.o]using d6.o),O fun h=>absurd h g3,m2,O (b4.o.Dy b9.o),O ?_,n5⟩
      .refine(g9.keep (w':=i3) fun c o u A K=>?_).CQ fun c A=>⟨⟨A.1.1,FJ A.1.2 b9.o.size⟩,fun e=>?_⟩
       .rw[<-K];simp[FI,d2.o.1 c A.1.2 A.2]
       .have e2:gb=c:=by simpa [GF]using e
        subst e2;rcases d2.2 with h|h
        .exact A.2 h
        .have:=A.1.2;omega
   .have hx:(DF.Dp l D).1=M:=by rw[<-e7.o,ep (by rw[a4.o];exact g1)]
    go_wp2;apply Q;exact nd b6 HB (O (Y.CQ fun c A=>A.1)) j9 hx (O fun h=>absurd (a4.symm.trans h) g1)
  .obtain rfl:i=S:=by omega
   have q2:¬ (i:Int)< (i:Int):=by omega
   have hx:(DF.Dp l D).1=M:=by rw[<-e7.o,<-HN.o,Hn,DF.Dp]
   go_wp2;apply Q;refine nd b6 HB (O (Y.CQ fun c A=>A.1)) j9 hx (O fun h=>?_);obtain⟨-,acc,h1,Z,h3⟩:=HG h;rw[<-HN.o,Hn,DF.Dp]at h3;have h4:acc=(DF.Dp l D).2:=by simpa using h3
   rw[<-h4];exact⟨h1.symm,p4,Z.Dp⟩
mutual
def St.sm:St->Prop
 | .mk _ _ _ _ _ x y body els _ _ _ _=>x.sm/\y.sm/\St.DO body/\St.DO els
def St.DO:List St->Prop
 | []=>True
 |s::r=>s.sm/\St.DO r
end
mutual
theorem uH {nm:ByteArray->Bool}:∀ (s:St) {d:Nat},jv nm s d=true->s.sm
 | .mk k l c s t x y body els id sl ot lo,d,h=>by
  unfold jv at h
  simp only[FG]at h
  obtain⟨-,-,-,-,h1,h2,-,-,h3,h4⟩:=h
  unfold St.sm
  refine⟨?_,?_,gK body h3,gK els h4⟩
  .split at h2
   .exact mI x h2
   .exact ul h2
  .split at h1
   .exact mI y h1
   .exact ul h1
theorem gK {nm:ByteArray->Bool}:∀ (r:List St) {d:Nat},bB nm r d=true->St.DO r
 | [],_,_=>by unfold St.DO;trivial
 |s::r,d,h=>by
  unfold bB at h
  rw[FG]at h
  unfold St.DO
  exact⟨uH s h.1,gK r h.2⟩
end
mutual
theorem wn:∀ (s:St),s.sm->Cb s
 | .mk k l c s t x y body els id sl ot lo,h=>by
  unfold St.sm at h
  exact fun ok D cs sc W hok hD hI h0 hS=>tc k l c s t x y body els id sl ot lo h.1 h.2.1 (iF body (ie body h.2.2.1)) (iF els (ie els h.2.2.2)) ok D cs sc W hok hD hI h0 hS
theorem ie:∀ (l:List St),St.DO l->∀s∈l,Cb s
 | [],_,s,hs=>by cases hs
 |y::r,h,s,hs=>by
  unfold St.DO at h
  by_cases e:s=y
  .rw[e]
   exact wn y h.1
  .exact ie r h.2 s ((FQ.1 hs).resolve_left e)
end
theorem sq(l:List St)(h:St.DO l):qR l:=iF l (ie l h)
section
variable {w W W':Fk} {cs:List Fr} {ok:Nat→Prop} {D:DF}
theorem aG.r0(h:aG ok w D cs):∃ (a:Option Addr) (cap:Nat),cs[0]? =some (.slice a D.P.vars.length cap)/\Ro (lg 2) ok w (.slice a D.P.vars.length cap) D.P.vars:=by obtain⟨H,A,J,C,G,n1,n2,n3,n4,F,rfl,g,E⟩:=h;obtain⟨a,cap,j,-⟩:=id g.vars;subst j;exact⟨a,cap,z,g.vars⟩
theorem aG.s0(h:aG ok w D cs){l:List Int}(H:Ro (lg 2) ok w v l):aG ok w {D with P:={D.P with vars:=l}} (cs.set 0 v):=by obtain⟨J,j,G,A,F,n1,n2,n3,n4,E,rfl,g,C⟩:=h;exact⟨v,j,G,A,F,n1,n2,n3,n4,E,z,⟨H,g.CW,g.CX,g.threads,g.nv,g.na,g.nm,g.nc,g.nh⟩,C⟩
theorem aG.r1(h:aG ok w D cs):∃ (a:Option Addr) (cap:Nat),cs[1]? =some (.slice a D.P.CW.length cap)/\Ro (lg 3) ok w (.slice a D.P.CW.length cap) D.P.CW:=by obtain⟨H,A,J,C,G,n1,n2,n3,n4,F,rfl,g,E⟩:=h;obtain⟨a,cap,j,-⟩:=id g.CW;subst j;exact⟨a,cap,z,g.CW⟩
theorem aG.s1(h:aG ok w D cs){l:List Int}(H:Ro (lg 3) ok w v l):aG ok w {D with P:={D.P with CW:=l}} (cs.set 1 v):=by obtain⟨F,J,G,j,E,n1,n2,n3,n4,C,rfl,g,A⟩:=h;exact⟨F,v,G,j,E,n1,n2,n3,n4,C,z,⟨g.vars,H,g.CX,g.threads,g.nv,g.na,g.nm,g.nc,g.nh⟩,A⟩
theorem aG.r4(h:aG ok w D cs):∃ (a:Option Addr) (cap:Nat),cs[4]? =some (.slice a D.P.CX.length cap)/\Ro (lg 3) ok w (.slice a D.P.CX.length cap) D.P.CX:=by obtain⟨H,A,J,C,G,n1,n2,n3,n4,F,rfl,g,E⟩:=h;obtain⟨a,cap,j,-⟩:=id g.CX;subst j;exact⟨a,cap,z,g.CX⟩
theorem aG.s4(h:aG ok w D cs){l:List Int}(H:Ro (lg 3) ok w v l):aG ok w {D with P:={D.P with CX:=l}} (cs.set 4 v):=by obtain⟨G,j,J,A,F,n1,n2,n3,n4,E,rfl,g,C⟩:=h;exact⟨G,j,v,A,F,n1,n2,n3,n4,E,z,⟨g.vars,g.CW,H,g.threads,g.nv,g.na,g.nm,g.nc,g.nh⟩,C⟩
theorem aG.r5(h:aG ok w D cs):∃ (a:Option Addr) (cap:Nat),cs[5]? =some (.slice a D.P.threads.length cap)/\Ro gh ok w (.slice a D.P.threads.length cap) D.P.threads:=by obtain⟨H,A,J,C,G,n1,n2,n3,n4,F,rfl,g,E⟩:=h;obtain⟨a,cap,j,-⟩:=id g.threads;subst j;exact⟨a,cap,z,g.threads⟩
theorem aG.s5(h:aG ok w D cs){l:List Th}(H:Ro gh ok w v l):aG ok w {D with P:={D.P with threads:=l}} (cs.set 5 v):=by obtain⟨F,j,G,J,E,n1,n2,n3,n4,C,rfl,g,A⟩:=h;exact⟨F,j,G,v,E,n1,n2,n3,n4,C,z,⟨g.vars,g.CW,g.CX,H,g.nv,g.na,g.nm,g.nc,g.nh⟩,A⟩
theorem aG.r8(h:aG ok w D cs):∃ (a:Option Addr) (cap:Nat),cs[8]? =some (.slice a D.P.nv.length cap)/\Ro fl ok w (.slice a D.P.nv.length cap) D.P.nv:=by obtain⟨H,A,J,C,G,n1,n2,n3,n4,F,rfl,g,E⟩:=h;obtain⟨a,cap,j,-⟩:=id g.nv;subst j;exact⟨a,cap,z,g.nv⟩
theorem aG.s8(h:aG ok w D cs){l:List ByteArray}(H:Ro fl ok w v l):aG ok w {D with P:={D.P with nv:=l}} (cs.set 8 v):=by obtain⟨F,j,G,A,J,n1,n2,n3,n4,E,rfl,g,C⟩:=h;exact⟨F,j,G,A,v,n1,n2,n3,n4,E,z,⟨g.vars,g.CW,g.CX,g.threads,H,g.na,g.nm,g.nc,g.nh⟩,C⟩
theorem aG.r9(h:aG ok w D cs):∃ (a:Option Addr) (cap:Nat),cs[9]? =some (.slice a D.P.na.length cap)/\Ro fl ok w (.slice a D.P.na.length cap) D.P.na:=by obtain⟨H,A,J,C,G,n1,n2,n3,n4,F,rfl,g,E⟩:=h;obtain⟨a,cap,j,-⟩:=id g.na;subst j;exact⟨a,cap,z,g.na⟩
theorem aG.s9(h:aG ok w D cs){l:List ByteArray}(J:Ro fl ok w v l):aG ok w {D with P:={D.P with na:=l}} (cs.set 9 v):=by obtain⟨G,j,H,A,F,n1,n2,n3,n4,E,rfl,g,C⟩:=h;exact⟨G,j,H,A,F,v,n2,n3,n4,E,z,⟨g.vars,g.CW,g.CX,g.threads,g.nv,J,g.nm,g.nc,g.nh⟩,C⟩
theorem aG.Ft(h:aG ok w D cs):∃ (a:Option Addr) (cap:Nat),cs[10]? =some (.slice a D.P.nm.length cap)/\Ro fl ok w (.slice a D.P.nm.length cap) D.P.nm:=by obtain⟨H,A,J,C,G,n1,n2,n3,n4,F,rfl,g,E⟩:=h;obtain⟨a,cap,j,-⟩:=id g.nm;subst j;exact⟨a,cap,z,g.nm⟩
theorem aG.Fz(h:aG ok w D cs){l:List ByteArray}(J:Ro fl ok w v l):aG ok w {D with P:={D.P with nm:=l}} (cs.set 10 v):=by obtain⟨G,j,H,A,F,n1,n2,n3,n4,E,rfl,g,C⟩:=h;exact⟨G,j,H,A,F,n1,v,n3,n4,E,z,⟨g.vars,g.CW,g.CX,g.threads,g.nv,g.na,J,g.nc,g.nh⟩,C⟩
theorem aG.FA(h:aG ok w D cs):∃ (a:Option Addr) (cap:Nat),cs[11]? =some (.slice a D.P.nc.length cap)/\Ro fl ok w (.slice a D.P.nc.length cap) D.P.nc:=by obtain⟨H,A,J,C,G,n1,n2,n3,n4,F,rfl,g,E⟩:=h;obtain⟨a,cap,j,-⟩:=id g.nc;subst j;exact⟨a,cap,z,g.nc⟩
theorem aG.Fs(h:aG ok w D cs){l:List ByteArray}(J:Ro fl ok w v l):aG ok w {D with P:={D.P with nc:=l}} (cs.set 11 v):=by obtain⟨G,j,H,A,F,n1,n2,n3,n4,E,rfl,g,C⟩:=h;exact⟨G,j,H,A,F,n1,n2,v,n4,E,z,⟨g.vars,g.CW,g.CX,g.threads,g.nv,g.na,g.nm,J,g.nh⟩,C⟩
theorem aG.Fy(h:aG ok w D cs):∃ (a:Option Addr) (cap:Nat),cs[12]? =some (.slice a D.P.nh.length cap)/\Ro fl ok w (.slice a D.P.nh.length cap) D.P.nh:=by obtain⟨H,A,J,C,G,n1,n2,n3,n4,F,rfl,g,E⟩:=h;obtain⟨a,cap,j,-⟩:=id g.nh;subst j;exact⟨a,cap,z,g.nh⟩
theorem aG.Fv(h:aG ok w D cs){l:List ByteArray}(J:Ro fl ok w v l):aG ok w {D with P:={D.P with nh:=l}} (cs.set 12 v):=by obtain⟨G,j,H,A,F,n1,n2,n3,n4,E,rfl,g,C⟩:=h;exact⟨G,j,H,A,F,n1,n2,n3,v,E,z,⟨g.vars,g.CW,g.CX,g.threads,g.nv,g.na,g.nm,g.nc,J⟩,C⟩
theorem aG.s2(h:aG ok w D cs)(n:Nat):aG ok w {D with P:={D.P with CT:=n}} (cs.set 2 (I n)):=by obtain⟨G,j,H,A,F,n1,n2,n3,n4,E,rfl,g,C⟩:=h;exact⟨G,j,H,A,F,n1,n2,n3,n4,E,z,⟨g.vars,g.CW,g.CX,g.threads,g.nv,g.na,g.nm,g.nc,g.nh⟩,C⟩
theorem aG.s3(h:aG ok w D cs)(n:Nat):aG ok w {D with P:={D.P with conds:=n}} (cs.set 3 (I n)):=by obtain⟨G,j,H,A,F,n1,n2,n3,n4,E,rfl,g,C⟩:=h;exact⟨G,j,H,A,F,n1,n2,n3,n4,E,z,⟨g.vars,g.CW,g.CX,g.threads,g.nv,g.na,g.nm,g.nc,g.nh⟩,C⟩
theorem aG.Ff(h:aG ok w D cs):∃ (a:Option Addr) (cap:Nat),cs[13]? =some (.slice a D.names.length cap)/\Ro ma ok w (.slice a D.names.length cap) D.names:=by obtain⟨-,-,-,A,j,g⟩:=h.c7;obtain⟨a,cap,rfl,-⟩:=id g;exact⟨a,cap,j,g⟩
theorem aG.Fw(h:aG ok w D cs)(n:Int):aG ok w {D with cells:=n} (cs.set 14 (I n)):=by obtain⟨G,g,H,j,E,n1,n2,n3,n4,C,rfl,F,A⟩:=h;exact⟨G,g,H,j,E,n1,n2,n3,n4,C,z,F,A⟩
theorem aG.ints(h:aG ok w D cs):cs[2]? =some (I D.P.CT)/\cs[3]? =some (I D.P.conds)/\cs[14]? =some (I D.cells):=by obtain⟨G,g,H,j,E,n1,n2,n3,n4,C,rfl,F,A⟩:=h;exact⟨z,z,z⟩
structure Dq (w:Fk) (cs dc:List Fr) (W:Fk):Prop where
 b:FM w.1.size w W
 f:ak W w.1.size 109 cs
 d:ak W (w.1.size+1) 46 dc
 z:ak W (w.1.size+1+1) 109 nx
def jw(ok:Nat->Prop)(w W:Fk)(c:Nat):Prop:=(ok c∨w.1.size+3<=c)/\c<W.1.size
theorem Dq.lt(h:Dq w cs l2 W):w.1.size+3<=W.1.size:=by have:=h.z.lt;omega
theorem Dq.below(h:Dq w cs l2 W)(g:bL W W'):Dq w cs l2 W':=⟨h.b.trans (g.mono h.b.size),h.f.below g,h.d.below g,h.z.below g⟩
theorem Dq.Dc(h:Dq w cs l2 W)(j:ak W' w.1.size 109 l3)(g:Ch w.1.size W W'):Dq w l3 l2 W':=⟨g.below rl h.b,j,g.CV (by omega) h.d,g.CV (by omega) h.z⟩
theorem cD(h:aG (jw ok w W) W D cs)(g:bL W W'):aG (jw ok w W') W' D cs:=(h.below g).CQ fun _ j=>⟨j.1,FJ j.2 g.size⟩
theorem dr(A:∀c,ok c->c<w.1.size)(h:aG (jw ok w W) W D cs)(g:Ch b W W')(E:w.1.size<=b)(C:b<w.1.size+3):aG (jw ok w W') W' D cs:=(g.df (fun e=>by
 rcases e.1 with e|e
 .have:=A _ e;omega
 .omega) h).CQ fun c j=>⟨j.1,by rw[g.size];exact j.2⟩
end
def sr(ok:Nat->Prop)(w:Fk)(R:DF)(e:GP)(w':Fk):Prop:=(∃ds,e= .returned (.agg ds.toArray)/\aG (fun c=>ok c∨w.1.size<=c) w' R ds)/\FM w.1.size w w'
theorem fr{ok:Nat->Prop}{cs:List Fr}(A:∀c,ok c->c<w.1.size)(g:Dq w cs l3 W)(hd:aG (jw ok w W) W D l2)(c7:Ch (w.1.size+1+1) W V):sr ok w D (.returned (.agg l2.toArray)) V:=by
 refine⟨⟨l2,z,(c7.df (fun e=>?_) hd).CQ fun c j=>?_⟩,c7.below (by omega) g.b⟩
 .rcases e.1 with e|e
  .have:=A _ e;omega
  .omega
 .rcases j.1 with h|h
  .exact .inl h
  .exact .inr (by omega)
theorem yz:(prog.info? 2).map (fun i=> (i.zero.map (fun z=>z.cells.size),i.size,decide (i.bytes<=1024)))=some (some 1,1,true):=by kernel_rfl
theorem sM:(prog.info? 3).map (fun i=> (i.zero.map (fun z=>z.cells.size),i.size,decide (i.bytes<=1024)))=some (some 1,1,true):=by kernel_rfl
theorem kC:(prog.info? 9).map (fun i=> (i.zero.map (fun z=>z.cells.size),i.size,decide (i.bytes<=1024)))=some (some 1,1,true):=by kernel_rfl
theorem sJ:(prog.info? 71).map (fun i=> (i.zero.map (fun z=>z.cells.size),i.size,decide (i.bytes<=1024)))=some (some 3,3,true):=by kernel_rfl
structure Cm (D:DF):Prop where
 names:D.names.length<=64
 lens:D.P.vars.length<=64/\D.P.CW.length<=64/\D.P.CX.length<=64/\D.P.threads.length<=64/\D.P.nv.length<=64/\D.P.na.length<=64/\D.P.nm.length<=64/\D.P.nc.length<=64/\D.P.nh.length<=64/\D.P.CT<=64/\D.P.conds<=64
 cells:0<=D.cells/\D.cells<=256
 body:∀t∈D.P.threads,t.body=[]
 zero:D.locals=0/\D.CY=0/\D.P.stmts=0
theorem fC{ok:Nat->Prop}{cs:List Fr}{k l c:Int}{num:Int}{body:List St}{bv:Fr}(a0:∀c,ok c->c<w.1.size)(hk:1<=k)(hN:D.names.length<=64)(j:Hid (Dq w cs (dy k l c s6 num bv) W))(M:Hid (aG (jw ok w W) W D cs)){R:DF}(HR:Hid (R=D.Eb ⟨k,l,c,s6,num,body⟩ n))(hU:l2.length=229:=by rfl):
  FR prog (Jp 4 (f39.body.getD .skip)) (Gb prog f39 (sr ok w R)) ⟨(v0::v1::Pt w.1.size::Pt (w.1.size+1)::Pt (w.1.size+1+1)::I n::l2).toArray,[]⟩ W:=by
 revert l2;apply aN;iterate 229 intro _
 change FR _ _ _ _ _;obtain⟨du,V,U⟩:=cd;have e2:prog.follows .mixedOrders=true:=by kernel_rfl
 have HL:=O M.o.cells;have a7:((k.toNat:Nat):Int)=k:=by omega
 have d4:=O a7;obtain⟨-,-,-,vn,a5,b4⟩:=M.o.c7;obtain⟨va,e8,rfl,-⟩:=id b4;have c13:=(j.o.f.cell 13).trans a5;have q0:W.cell? ⟨w.1.size+1,0,none⟩=some (I k):=by rw[j.o.d.cell];rfl
 have q1:W.cell? ⟨w.1.size+1,1,none⟩=some (I l):=by rw[j.o.d.cell];rfl
 have q2:W.cell? ⟨w.1.size+1,2,none⟩=some (I c):=by rw[j.o.d.cell];rfl
 have e4:=O hN;clear a7 a5 b4 hN;obtain⟨Z,a2⟩:=eX (D.names.length);rw[a2]at c13;have a8:=O a2;clear a2;conv in (Jp _ _)=>whnf
 by_cases c8:64<=Z
 .have e5:(64:Int)<=(Z:Int):=by omega
  have a3:Hid (R=D.DA 134 (l,c)):=O (by rw[HR.o];unfold DF.Eb;rw[aD (by rw[a8.o];exact c8)]);have hf:=bP D _ 134 (l,c) cs W M.o;go_wp2_with (first| (with_reducible refine l1 218 109 ?_;refine ac V U aj z (.tmp 2) z w.1.size cs z (O j.o.f) HL.o.1 ?_));refine hf.mono ?_;clear hf;rintro e g ⟨⟨es,rfl,hd⟩,H⟩;have c9:=O (j.o.below H);have e6:Hid (aG (jw ok w g) g _ es):=O (hd.CQ fun c G=>⟨G.1,FJ G.2 H.size⟩);have d1:=O hd.cells;clear hd H;go_wp2_with (first| (with_reducible refine s0 109 ?_;refine af aj z (.tmp 4) (.tmp 221) z (w.1.size+1+1) es _ z z c9.o.z z d1.o ?_;intro W7 S c7;have J:=O (EQ S c7);clear S c7));rw[a3.o];refine aC V U aj J.o.1 d1.o.1 z z z ?_;exact fr a0 c9.o e6.o J.o.2
 .have e5:¬ (64:Int)<=(Z:Int):=by omega
  have a3:Hid (R={D with names:=D.names++[⟨s6,k.toNat,n⟩]}):=O (by rw[HR.o];unfold DF.Eb;rw[am (by rw[a8.o];exact c8)]);go_wp2_with fail;clear c13 q0 q1 q2;obtain⟨g,Q⟩:=eX (W.drew);have C:Hid (Dq w cs _ g):=O (by rw[<-Q];exact j.o.below (FB _ W).drew);have Y:Hid (aG (jw ok w g) g D cs):=O (by rw[<-Q];exact cD M.o (FB _ W).drew);obtain⟨f0,e9,b8,b9⟩:=aG.Ff Y.o;have b7:=O b9;have d7:=O b8;have d8:=O Y.o.cells;obtain⟨i1,z1,e0,e1,d5,d9,d3⟩:=bJ sj;have e3:prog.underlying 107=some (.slice ma.ty):=by kernel_rfl
  clear b8 b9 j M;refine al [12] (fun W=>bL g W) e2 ?_;rw[Q];clear Q;have K:Hid (bL g g):=O (FB _ g);refine fa 0 ?_;refine fK _ 1 (fun F A=> ((C.o.f.below A).cell 13).trans d7.o) ?_;refine fa 3 ?_;refine tf (fun F=>F.cell? ⟨w.1.size+1,3,none⟩=some (.string s6)) 4 (some 226) K (fun F A=>by rw[(C.o.d.below A).cell];rfl) ?_;refine nm ?_;refine fa 5 ?_;refine tf (fun F=>F.cell? ⟨w.1.size+1,0,none⟩=some (.int .i64 k)) 6 (some 228) K (fun F A=>by rw[(C.o.d.below A).cell];rfl) ?_;refine tk 7 (some 229) K ?_;refine tk 8 (some 230) K ?_;refine nm ?_
  refine dS (E:=ma) 2 9 10 224 231 232 107 (.const (.slice none 0 0)) (.tmp 223) (.tmp 230) z z z ⟨z,z,z⟩ ⟨z,z,z⟩ (by kernel_rfl) (by kernel_rfl) (by kernel_rfl) (by kernel_rfl) (by decide) z z z (by kernel_rfl) (by decide) ⟨223,z,by decide⟩ ⟨230,z,by decide⟩ (fun _=>z) e3 e0 e1 d5 d9 (by decide) (by decide) d3 z b7.o (fun _ _ _ _ _ h=>h) (by have:=e4.o;omega) (.agg #[.string s6,I k,I n]) (Nm.mk s6 k.toNat n).cells ⟨s6,k.toNat,n⟩ z (by unfold Nm.cells;rw[d4.o];rfl) (fun _ _=>z) (fun _ h=>h) (fun e7 v2 g1 b5 F hG H=>?_);have d0:=O hG;have N:=O H;clear hG H;refine nm ?_;refine fa 11 ?_;refine nm ?_;refine oD 12 fun d2 hK=>?_
  refine aA (by kernel_rfl) (.tmp 233) (.tmp 232) z w.1.size 13 109 (.slice (some ⟨g1,0,none⟩) (D.names.length+1) b5) cs z z z z (C.o.f.below N.o) (by rw[d8.o.1];decide) ?_;intro U1 ku cu;have X:=O (EQ ku cu);clear ku cu;refine hK _ _ (fun h=>by cases h) ?_;clear hK d2;simp only[Gf];refine dn ?_;have a9:=aG.tight (ok:=fun c=>ok c∨w.1.size+3<=c) (aG.Eg (aG.CQ (fun c G=>G.1) (Y.o.below N.o)) (Ro.CQ (fun c G=> .inr (by have h1:g.1.size<=c:=G;have:=C.o.lt;omega)) (Ro.of d0.o)));have a4:=O ((C.o.below N.o).Dc X.o.1 X.o.2);have a6:=O (dr a0 a9 X.o.2 rl (by omega));clear a9 X d0 N C Y b7;generalize cs.set 13 (.slice (some ⟨g1,0,none⟩) (D.names.length+1) b5)=b6 at *;have a1:=O a6.o.cells
  go_wp2_with (first| (with_reducible refine l1 234 109 ?_;refine ac V U aj z (.tmp 2) z w.1.size b6 z (O a4.o.f) a1.o.1 ?_)| (with_reducible refine s0 109 ?_;refine af aj z (.tmp 4) (.tmp 234) z (w.1.size+1+1) b6 _ z z a4.o.z z a1.o ?_;intro W7 S c7;have J:=O (EQ S c7);clear S c7));rw[a3.o];refine aC V U aj J.o.1 a1.o.1 z z z ?_;exact fr a0 a4 a6 J.o.2
theorem ta(d:De)(r3:1<=d.kind)(q9:d.kind<=6)(r2:d.kind=1->-2147483648<=d.num/\d.num<=2147483647)(ok:Nat->Prop)(D:DF)(cs ec:List Fr)(w:Fk)(J:∀c,ok c->c<w.1.size)(hD:aG ok w D cs)(hI:Cm D)(hE:fS (fun _=>True) w ec d):Jq prog 39 #[.agg cs.toArray,.agg ec.toArray] w (sr ok w (D.dec d)):=by
 obtain⟨du,a6,a5⟩:=cd;have a9:prog.follows .mixedOrders=true:=by kernel_rfl
 obtain⟨i9,z9,l7,m0,v3⟩:=em;obtain⟨k,l,c,C,num,body⟩:=d;obtain⟨ab,n5,m1,-,-⟩:=hE;simp only at r3 q9 r2 m1;have v9:ec=dy k l c C num (.slice ab body.length n5):=m1;subst v9;obtain⟨bv,m9⟩:∃v,Gd ab body.length n5=v:=⟨_,z⟩;rw[m9];have N:=O hI;have HL:=O hD.cells;have K:=O hD;obtain⟨R,HR⟩:∃R,D.dec ⟨k,l,c,C,num,body⟩=R:=⟨_,z⟩;rw[HR];go_in;refine wk fun KK a3=>?_;go_wp2_with (first
  | (with_reducible refine cp 2 (.box 109 _) ?_;refine aJ z (.tmp 0) z cs z w.1.size z ?_;intro G k1 b1 p7;have K1:=O k1;have B1:=O b1;clear k1 b1)
  | (with_reducible refine cp 3 (.box 46 _) ?_;refine aJ z (.tmp 1) z (dy k l c C num bv) z (w.1.size+1) p7 ?_;intro W2 k2 b2 s2;have K2:=O k2;have B2:=O b2;clear k2 b2)
  | (with_reducible refine cp 4 (.alloc 109) ?_;refine ag l7 m0 v3 z z (w.1.size+1+1) s2 ?_;intro W3 k3 b3 s3;have K3:=O k3;have B3:=O b3;clear k3 b3)
 )
 refine a3.o _ _ ?_;have m3:=B1.o.trans (B2.o.mono B1.o.size);have i1:=m3.trans (B3.o.mono m3.size);have j0:Hid (Dq w cs (dy k l c C num bv) W3):=O ⟨i1,(K1.o.below B2.o).below B3.o,K2.o.below B3.o,K3.o⟩;have l5:Hid (aG (jw ok w W3) W3 D cs):=O ((K.o.below i1).CQ fun c j=>⟨.inl j,FJ (J c j) i1.size⟩);refine wk fun KK a3=>?_;have q3:W3.cell? ⟨w.1.size+1,3,none⟩=some (.string C):=by rw[j0.o.d.cell];rfl
 have l8:=jA D C (jw ok w W3) cs W3 l5.o;obtain⟨oi,m2⟩:=eX (D.at C);rw[m2]at l8;go_wp2_with (first| (with_reducible refine l0 109 ?_;refine ac a6 a5 aj z (.tmp 2) z w.1.size cs z (O j0.o.f) HL.o.1 ?_));refine l8.mono ?_;rintro e W ⟨rfl,g⟩;have A:=O (j0.o.below g);have K:=O (cD l5.o g);have q1:W.cell? ⟨w.1.size+1,1,none⟩=some (I l):=by rw[A.o.d.cell];rfl
 have q2:W.cell? ⟨w.1.size+1,2,none⟩=some (I c):=by rw[A.o.d.cell];rfl
 rcases oi with _|i;rotate_left
 .have b5:Hid (R=D.DA 130 (l,c)):=O (by rw[<-HR];unfold DF.dec;rw[m2];rfl)
  simp only[qN];have w9:(0:Int)<=(i:Int):=by omega
  generalize (i:Int)=iv at w9 ⊢;have hf:=bP D _ 130 (l,c) cs W K.o;go_wp2_with (first| (with_reducible refine l1 11 109 ?_;refine ac a6 a5 aj z (.tmp 2) z w.1.size cs z (O A.o.f) HL.o.1 ?_));refine hf.mono ?_;rintro e Y ⟨⟨es,rfl,hd⟩,g⟩;have a2:=O (A.o.below g);have a7:Hid (aG (jw ok w Y) Y _ es):=O (hd.CQ fun c j=>⟨j.1,FJ j.2 g.size⟩);have Z:=O hd.cells;go_wp2_with (first| (with_reducible refine s0 109 ?_;refine af aj z (.tmp 4) (.tmp 14) z (w.1.size+1+1) es _ z z a2.o.z z Z.o ?_;intro W7 k7 c7;have U:=O (EQ k7 c7);clear k7 c7));rw[b5.o];refine aC a6 a5 aj U.o.1 Z.o.1 z z z ?_;exact fr J a2.o a7.o U.o.2
 simp only[qN];have b7:Hid (∀E,(if k=1 then (if num< -2147483648∨2147483647<num then D.DA 134 (l,c) else ({D with P:={D.P with vars:=D.P.vars++[num],nv:=D.P.nv++[C]}}:DF).Eb ⟨k,l,c,C,num,body⟩ D.P.vars.length)
  else if k=2 then (if num<1∨256<num∨256<D.cells+num then D.DA 134 (l,c) else ({D with cells:=D.cells+num,P:={D.P with CW:=D.P.CW++[num],na:=D.P.na++[C]}}:DF).Eb ⟨k,l,c,C,num,body⟩ D.P.CW.length)
  else if k=3 then ({D with P:={D.P with CT:=D.P.CT+1,nm:=D.P.nm++[C]}}:DF).Eb ⟨k,l,c,C,num,body⟩ D.P.CT
  else if k=4 then ({D with P:={D.P with conds:=D.P.conds+1,nc:=D.P.nc++[C]}}:DF).Eb ⟨k,l,c,C,num,body⟩ D.P.conds
  else if k=5 then (if num<1∨16<num then D.DA 134 (l,c) else ({D with P:={D.P with CX:=D.P.CX++[num],nh:=D.P.nh++[C]}}:DF).Eb ⟨k,l,c,C,num,body⟩ D.P.CX.length)
  else if k=6 then ({D with P:={D.P with threads:=D.P.threads++[⟨C,0,[]⟩]}}:DF).Eb ⟨k,l,c,C,num,body⟩ D.P.threads.length
  else D.Eb ⟨k,l,c,C,num,body⟩ 0)=E->R=E):=O fun E hE=>by rw[<-HR,<-hE];unfold DF.dec;rw[m2];rfl
 go_wp2_with fail;refine a3.o _ _ ?_;refine wk fun KK a3=>?_;go_wp2_with fail;refine a3.o _ _ ?_;refine wk fun KK a3=>?_;have q0:W.cell? ⟨w.1.size+1,0,none⟩=some (I k):=by rw[A.o.d.cell];rfl
 have q4:W.cell? ⟨w.1.size+1,4,none⟩=some (I num):=by rw[A.o.d.cell];rfl
 have y8:k=1∨k=2∨k=3∨k=4∨k=5∨k=6:=by omega
 rcases y8 with rfl|rfl|rfl|rfl|rfl|rfl
 .have hn:=r2 z;obtain⟨va,f3,F,-⟩:=K.o.r0;have c0:=(A.o.f.cell 0).trans F;have X:¬num< -2147483648:=by omega
  have h2:¬2147483647<num:=by omega
  go_wp2_with fail;obtain⟨V2,f9⟩:=eX (W.drew);have d7:Hid (Dq w cs _ V2):=O (by rw[<-f9];exact A.o.below (FB _ W).drew);have j9:Hid (aG (jw ok w V2) V2 D cs):=O (by rw[<-f9];exact cD K.o (FB _ W).drew);obtain⟨F7,E1,D3,m5⟩:=aG.r0 j9.o;have v0:=O j9.o.cells;obtain⟨i2,z2,D0,t3,z0,w4,t5⟩:=bJ yz;have w1:prog.underlying 23=some (.slice (lg 2).ty):=by kernel_rfl
  refine al [10] (fun W=>bL V2 W) a9 ?_;rw[f9];have f1:Hid (bL V2 V2):=O (FB _ V2);refine tk 0 (some 35) f1 ?_;refine tk 1 (some 36) f1 ?_;refine tf _ 2 (some 37) f1 (fun G H=> ((d7.o.f.below H).cell 0).trans D3) ?_;refine tk 4 (some 39) f1 ?_;refine nm ?_;refine tf (fun G=>G.cell? ⟨w.1.size+1,4,none⟩=some (.int .i64 num)) 5 (some 40) f1 (fun G H=>by rw[(d7.o.d.below H).cell];rfl) ?_;refine nm ?_
  refine dS (E:=(lg 2)) 3 6 7 38 41 42 23 (.const (.slice none 0 0)) (.tmp 37) (.tmp 40) z z z ⟨z,z,z⟩ ⟨z,z,z⟩ (by kernel_rfl) (by kernel_rfl) (by kernel_rfl) (by kernel_rfl) (by decide) z z z (by kernel_rfl) (by decide) ⟨37,z,by decide⟩ ⟨40,z,by decide⟩ (fun _=>z) w1 D0 t3 z0 w4 (by decide) (by decide) t5 z m5 (fun _ _ _ _ _ h=>h) (by have:=N.o.lens;show D.P.vars.length<=1000000;omega) (I num) [I num] num z z (fun _ _=>z) (fun _ h=>h) (fun v1 v2 g2 m7 W2 t2 d8=>?_);refine nm ?_;refine tk 8 (some 43) d8 ?_;refine tk 9 (some 44) d8 ?_;refine nm ?_;refine oD 10 fun a1 S=>?_
  refine aA (by kernel_rfl) (.tmp 44) (.tmp 42) z w.1.size 0 109 (.slice (some ⟨g2,0,none⟩) ((D:DF).P.vars.length+1) m7) cs z z z z (d7.o.f.below d8) (by rw[v0.o.1];decide) ?_;intro U2 M V;have l2:=O (EQ M V);refine S _ _ (fun h=>by cases h) ?_;simp only[Gf];refine dn ?_;have Q:=aG.tight (ok:=fun c=>ok c∨w.1.size+3<=c) (aG.s0 (aG.CQ (fun c j=>j.1) (j9.o.below d8)) (Ro.CQ (fun c j=> .inr (by have X:V2.1.size<=c:=j;have:=d7.o.lt;omega)) (Ro.of t2)));have p4:=O ((d7.o.below d8).Dc l2.o.1 l2.o.2);have n0:=O (dr J Q l2.o.2 rl (by omega));generalize cs.set 0 (.slice (some ⟨g2,0,none⟩) ((D:DF).P.vars.length+1) m7)=f4 at *;go_wp2_with fail;obtain⟨V3,l3⟩:=eX (U2.drew)
  have e9:Hid (Dq w f4 _ V3):=O (by rw[<-l3];exact p4.o.below (FB _ U2).drew);have j1:Hid (aG (jw ok w V3) V3 ({D with P:={(D:DF).P with vars:=(D:DF).P.vars++[num]}}:DF) f4):=O (by rw[<-l3];exact cD n0.o (FB _ U2).drew);obtain⟨D7,D8,B5,s6⟩:=aG.r8 j1.o;have A8:=O j1.o.cells;obtain⟨i3,z3,u2,v8,w7,x8,C4⟩:=bJ kC;have x6:prog.underlying 26=some (.slice fl.ty):=by kernel_rfl
  refine al [12] (fun W=>bL V3 W) a9 ?_;rw[l3];have e5:Hid (bL V3 V3):=O (FB _ V3);refine tk 0 (some 45) e5 ?_;refine tk 1 (some 46) e5 ?_;refine tk 2 (some 47) e5 ?_;refine tf _ 3 (some 48) e5 (fun G H=> ((e9.o.f.below H).cell 8).trans B5) ?_;refine nm ?_;refine tk 5 (some 50) e5 ?_;refine tf (fun G=>G.cell? ⟨w.1.size+1,3,none⟩=some (.string C)) 6 (some 51) e5 (fun G H=>by rw[(e9.o.d.below H).cell];rfl) ?_;refine nm ?_
  refine dS (E:=fl) 4 7 8 49 52 53 26 (.const (.slice none 0 0)) (.tmp 48) (.tmp 51) z z z ⟨z,z,z⟩ ⟨z,z,z⟩ (by kernel_rfl) (by kernel_rfl) (by kernel_rfl) (by kernel_rfl) (by decide) z z z (by kernel_rfl) (by decide) ⟨48,z,by decide⟩ ⟨51,z,by decide⟩ (fun _=>z) x6 u2 v8 w7 x8 (by decide) (by decide) C4 z s6 (fun _ _ _ _ _ h=>h) (by have:=N.o.lens;show D.P.nv.length<=1000000;omega) (.string C) [.string C] C z z (fun _ _=>z) (fun _ h=>h) (fun v1 v2 g3 p6 W3 o5 c8=>?_);refine nm ?_;refine tk 9 (some 54) c8 ?_;refine tk 10 (some 55) c8 ?_;refine tk 11 (some 56) c8 ?_;refine nm ?_;refine oD 12 fun a1 S=>?_
  refine aA (by kernel_rfl) (.tmp 56) (.tmp 53) z w.1.size 8 109 (.slice (some ⟨g3,0,none⟩) ((D:DF).P.nv.length+1) p6) f4 z z z z (e9.o.f.below c8) (by rw[A8.o.1];decide) ?_;intro U3 M V;have k8:=O (EQ M V);refine S _ _ (fun h=>by cases h) ?_;simp only[Gf];refine dn ?_;have Q:=aG.tight (ok:=fun c=>ok c∨w.1.size+3<=c) (aG.s8 (aG.CQ (fun c j=>j.1) (j1.o.below c8)) (Ro.CQ (fun c j=> .inr (by have X:V3.1.size<=c:=j;have:=e9.o.lt;omega)) (Ro.of o5)));have w8:=O ((e9.o.below c8).Dc k8.o.1 k8.o.2);have u8:=O (dr J Q k8.o.2 rl (by omega));generalize f4.set 8 (.slice (some ⟨g3,0,none⟩) ((D:DF).P.nv.length+1) p6)=F8 at *;go_wp2_with fail;refine a3.o _ _ ?_
  exact fC J (by decide) (by exact N.o.names) w8 u8 (O (b7.o _ (by show (if num< -2147483648∨2147483647<num then _ else _)=_;exact am (by omega))))
 .by_cases g:num<1∨256<num∨256<D.cells+num
  .have b5:Hid (R=D.DA 134 (l,c)):=O (b7.o _ (by show (if num<1∨256<num∨256<D.cells+num then _ else _)=_;exact aD g));obtain⟨va,f3,F,-⟩:=K.o.r1;have c1:=(A.o.f.cell 1).trans F;have c14:=(A.o.f.cell 14).trans K.o.ints.2.2;have m6:=N.o.cells;by_cases X:num<1
   .skip;have hf:=bP D _ 134 (l,c) cs W K.o;go_wp2_with (first| (with_reducible refine l1 79 109 ?_;refine ac a6 a5 aj z (.tmp 2) z w.1.size cs z (O A.o.f) HL.o.1 ?_));refine hf.mono ?_;rintro e Y ⟨⟨es,rfl,hd⟩,g⟩;have a2:=O (A.o.below g);have a7:Hid (aG (jw ok w Y) Y _ es):=O (hd.CQ fun c j=>⟨j.1,FJ j.2 g.size⟩);have Z:=O hd.cells;go_wp2_with (first| (with_reducible refine s0 109 ?_;refine af aj z (.tmp 4) (.tmp 82) z (w.1.size+1+1) es _ z z a2.o.z z Z.o ?_;intro W7 k7 c7;have U:=O (EQ k7 c7);clear k7 c7));rw[b5.o];refine aC a6 a5 aj U.o.1 Z.o.1 z z z ?_;exact fr J a2.o a7.o U.o.2
   by_cases h2:256<num
   .skip;have hf:=bP D _ 134 (l,c) cs W K.o;go_wp2_with (first| (with_reducible refine l1 79 109 ?_;refine ac a6 a5 aj z (.tmp 2) z w.1.size cs z (O A.o.f) HL.o.1 ?_));refine hf.mono ?_;rintro e Y ⟨⟨es,rfl,hd⟩,g⟩;have a2:=O (A.o.below g);have a7:Hid (aG (jw ok w Y) Y _ es):=O (hd.CQ fun c j=>⟨j.1,FJ j.2 g.size⟩);have Z:=O hd.cells;go_wp2_with (first| (with_reducible refine s0 109 ?_;refine af aj z (.tmp 4) (.tmp 82) z (w.1.size+1+1) es _ z z a2.o.z z Z.o ?_;intro W7 k7 c7;have U:=O (EQ k7 c7);clear k7 c7));rw[b5.o];refine aC a6 a5 aj U.o.1 Z.o.1 z z z ?_;exact fr J a2.o a7.o U.o.2
   have h3:256<D.cells+num:=by omega
   have h4:D.cells+num<1000:=by omega
   have hf:=bP D _ 134 (l,c) cs W K.o;go_wp2_with (first| (with_reducible refine l1 79 109 ?_;refine ac a6 a5 aj z (.tmp 2) z w.1.size cs z (O A.o.f) HL.o.1 ?_));refine hf.mono ?_;rintro e Y ⟨⟨es,rfl,hd⟩,g⟩;have a2:=O (A.o.below g);have a7:Hid (aG (jw ok w Y) Y _ es):=O (hd.CQ fun c j=>⟨j.1,FJ j.2 g.size⟩);have Z:=O hd.cells;go_wp2_with (first| (with_reducible refine s0 109 ?_;refine af aj z (.tmp 4) (.tmp 82) z (w.1.size+1+1) es _ z z a2.o.z z Z.o ?_;intro W7 k7 c7;have U:=O (EQ k7 c7);clear k7 c7));rw[b5.o];refine aC a6 a5 aj U.o.1 Z.o.1 z z z ?_;exact fr J a2.o a7.o U.o.2
  .have m6:=N.o.cells;obtain⟨va,f3,F,-⟩:=K.o.r1;have c1:=(A.o.f.cell 1).trans F;have c14:=(A.o.f.cell 14).trans K.o.ints.2.2;have C2:=A.o.f.frozen 14;have X:¬num<1:=by omega
   have h2:¬256<num:=by omega
   have h3:¬256<D.cells+num:=by omega
   have h4: -1000<=D.cells+num:=by omega
   go_wp2_with fail;have b6:=A.o.Dc (A.o.f.set1 14 (I (D.cells+num))) (Ch.one 14 _ W);have b4:=dr J (aG.Fw K.o (D.cells+num)) (Ch.one (b:=w.1.size) 14 (I (D.cells+num)) W) rl (by omega);have l9:=O g;generalize Gc _ _ _=Wa at *;generalize cs.set 14 _=a4 at *;let ⟨V4,k6⟩:=eX (Wa.drew)
   have e8:Hid (Dq w a4 _ V4):=O (by rw[<-k6];exact b6.below (FB _ Wa).drew);have h8:Hid (aG (jw ok w V4) V4 ({D with cells:=D.cells+num}:DF) a4):=O (by rw[<-k6];exact cD b4 (FB _ Wa).drew);let ⟨G1,E5,C8,o8⟩:=aG.r1 h8.o
   have y0:=O h8.o.cells;let ⟨i4,z4,v6,t9,w0,x9,y3⟩:=bJ sM
   have A5:prog.underlying 24=some (.slice (lg 3).ty):=by kernel_rfl
   refine al [10] (fun W=>bL V4 W) a9 ?_;rw[k6];have f0:Hid (bL V4 V4):=O (FB _ V4);refine nk 0 ?_;refine fK _ 2 (fun G H=> ((e8.o.f.below H).cell 1).trans C8) ?_;refine fa 4 ?_;refine nm ?_;refine fK (fun G=>G.cell? ⟨w.1.size+1,4,none⟩=some (.int .i64 num)) 5 (fun G H=>by rw[(e8.o.d.below H).cell];rfl) ?_;refine nm ?_
   refine dS (E:=(lg 3)) 3 6 7 92 95 96 24 (.const (.slice none 0 0)) (.tmp 91) (.tmp 94) z z z ⟨z,z,z⟩ ⟨z,z,z⟩ (by kernel_rfl) (by kernel_rfl) (by kernel_rfl) (by kernel_rfl) (by decide) z z z (by kernel_rfl) (by decide) ⟨91,z,by decide⟩ ⟨94,z,by decide⟩ (fun _=>z) A5 v6 t9 w0 x9 (by decide) (by decide) y3 z o8 (fun _ _ _ _ _ h=>h) (by have:=N.o.lens;show D.P.CW.length<=1000000;omega) (I num) [I num] num z z (fun _ _=>z) (fun _ h=>h) (fun v1 v2 g4 o6 W4 n6 d5=>?_);refine nm ?_;refine tk 8 (some 97) d5 ?_;refine tk 9 (some 98) d5 ?_;refine nm ?_;refine oD 10 fun a1 S=>?_
   refine aA (by kernel_rfl) (.tmp 98) (.tmp 96) z w.1.size 1 109 (.slice (some (ad g4 0)) ((({D with cells:=D.cells+num}:DF):DF).P.CW.length+1) o6) a4 z z z z (e8.o.f.below d5) (by rw[y0.o.1];decide) ?_;intro U4 M V;have f5:=O (EQ M V);refine S _ _ nofun ?_;simp only[Gf];refine dn ?_;have Q:=aG.tight (ok:=fun c=>ok c∨w.1.size+3<=c) (aG.s1 (aG.CQ (fun c j=>j.1) (h8.o.below d5)) (Ro.CQ (fun c j=> .inr (by have X:V4.1.size<=c:=j;have:=e8.o.lt;omega)) (Ro.of n6)));have n8:=O ((e8.o.below d5).Dc f5.o.1 f5.o.2);have r6:=O (dr J Q f5.o.2 rl (by omega));generalize a4.set 1 (.slice (some (ad g4 0)) ((({D with cells:=D.cells+num}:DF):DF).P.CW.length+1) o6)=k9 at *;go_wp2_with fail
   let ⟨V5,j2⟩:=eX (U4.drew)
   have e0:Hid (Dq w k9 _ V5):=O (by rw[<-j2];exact n8.o.below (FB _ U4).drew);have j7:Hid (aG (jw ok w V5) V5 ({({D with cells:=D.cells+num}:DF) with P:={(({D with cells:=D.cells+num}:DF):DF).P with CW:=(({D with cells:=D.cells+num}:DF):DF).P.CW++[num]}}:DF) k9):=O (by rw[<-j2];exact cD r6.o (FB _ U4).drew);let ⟨E3,F9,u9,p3⟩:=aG.r9 j7.o
   have u7:=O j7.o.cells;let ⟨i5,z5,D1,A4,C5,x0,B4⟩:=bJ kC
   have C3:prog.underlying 26=some (.slice fl.ty):=by kernel_rfl
   refine al [12] (fun W=>bL V5 W) a9 ?_;rw[j2];have e2:Hid (bL V5 V5):=O (FB _ V5);refine ke 0 ?_;refine fK _ 3 (fun G H=> ((e0.o.f.below H).cell 9).trans u9) ?_;refine nm ?_;refine fa 5 ?_;refine fK (fun G=>G.cell? ⟨w.1.size+1,3,none⟩=some (.string C)) 6 (fun G H=>by rw[(e0.o.d.below H).cell];rfl) ?_;refine nm ?_
   refine dS (E:=fl) 4 7 8 103 106 107 26 (.const (.slice none 0 0)) (.tmp 102) (.tmp 105) z z z ⟨z,z,z⟩ ⟨z,z,z⟩ (by kernel_rfl) (by kernel_rfl) (by kernel_rfl) (by kernel_rfl) (by decide) z z z (by kernel_rfl) (by decide) ⟨102,z,by decide⟩ ⟨105,z,by decide⟩ (fun _=>z) C3 D1 A4 C5 x0 (by decide) (by decide) B4 z p3 (fun _ _ _ _ _ h=>h) (by have:=N.o.lens;show D.P.na.length<=1000000;omega) (.string C) [.string C] C z z (fun _ _=>z) (fun _ h=>h) (fun v1 v2 g5 t1 W5 m4 b8=>?_);refine nm ?_;refine tk 9 (some 108) b8 ?_;refine tk 10 (some 109) b8 ?_;refine tk 11 (some 110) b8 ?_;refine nm ?_;refine oD 12 fun a1 S=>?_
   refine aA (by kernel_rfl) (.tmp 110) (.tmp 107) z w.1.size 9 109 (.slice (some (ad g5 0)) ((({D with cells:=D.cells+num}:DF):DF).P.na.length+1) t1) k9 z z z z (e0.o.f.below b8) (by rw[u7.o.1];decide) ?_;intro U5 M V;have i0:=O (EQ M V);refine S _ _ nofun ?_;simp only[Gf];refine dn ?_;have Q:=aG.tight (ok:=fun c=>ok c∨w.1.size+3<=c) (aG.s9 (aG.CQ (fun c j=>j.1) (j7.o.below b8)) (Ro.CQ (fun c j=> .inr (by have X:V5.1.size<=c:=j;have:=e0.o.lt;omega)) (Ro.of m4)));have u5:=O ((e0.o.below b8).Dc i0.o.1 i0.o.2);have x5:=O (dr J Q i0.o.2 rl (by omega));generalize k9.set 9 (.slice (some (ad g5 0)) ((({D with cells:=D.cells+num}:DF):DF).P.na.length+1) t1)=E4 at *;go_wp2_with fail;refine a3.o _ _ ?_
   exact fC J (by decide) (by exact N.o.names) u5 x5 (O (b7.o _ (by show (if num<1∨256<num∨256<D.cells+num then _ else _)=_;exact am l9.o)))
 .have hm:=N.o.lens;have c2:=(A.o.f.cell 2).trans K.o.ints.1;have g2:=A.o.f.frozen 2;have v4:(D.P.CT:Int)<100:=by omega
  go_wp2_with fail;have b6:=A.o.Dc (A.o.f.set1 2 (I ((D.P.CT:Int)+1))) (Ch.one 2 _ W);have b4:=dr J (aG.s2 K.o (D.P.CT+1)) (Ch.one (b:=w.1.size) 2 (I ((D.P.CT:Int)+1)) W) rl (by omega);rw[show ((D.P.CT+1:Nat):Int)=(D.P.CT:Int)+1 from rfl]at b4;generalize Gc _ _ _=Wa at *;generalize cs.set 2 _=a4 at *;let ⟨V6,f6⟩:=eX (Wa.drew)
  have d9:Hid (Dq w a4 _ V6):=O (by rw[<-f6];exact b6.below (FB _ Wa).drew);have h9:Hid (aG (jw ok w V6) V6 ({D with P:={D.P with CT:=D.P.CT+1}}:DF) a4):=O (by rw[<-f6];exact cD b4 (FB _ Wa).drew);let ⟨G2,F0,w6,n7⟩:=aG.Ft h9.o
  have A7:=O h9.o.cells;let ⟨i6,z6,x3,t4,x7,t7,y2⟩:=bJ kC
  have u4:prog.underlying 26=some (.slice fl.ty):=by kernel_rfl
  refine al [12] (fun W=>bL V6 W) a9 ?_;rw[f6];have e4:Hid (bL V6 V6):=O (FB _ V6);refine ke 0 ?_;refine fK _ 3 (fun G H=> ((d9.o.f.below H).cell 10).trans w6) ?_;refine nm ?_;refine fa 5 ?_;refine fK (fun G=>G.cell? ⟨w.1.size+1,3,none⟩=some (.string C)) 6 (fun G H=>by rw[(d9.o.d.below H).cell];rfl) ?_;refine nm ?_
  refine dS (E:=fl) 4 7 8 126 129 130 26 (.const (.slice none 0 0)) (.tmp 125) (.tmp 128) z z z ⟨z,z,z⟩ ⟨z,z,z⟩ (by kernel_rfl) (by kernel_rfl) (by kernel_rfl) (by kernel_rfl) (by decide) z z z (by kernel_rfl) (by decide) ⟨125,z,by decide⟩ ⟨128,z,by decide⟩ (fun _=>z) u4 x3 t4 x7 t7 (by decide) (by decide) y2 z n7 (fun _ _ _ _ _ h=>h) (by have:=N.o.lens;show D.P.nm.length<=1000000;omega) (.string C) [.string C] C z z (fun _ _=>z) (fun _ h=>h) (fun v1 v2 g6 s7 W6 o7 c9=>?_);refine nm ?_;refine tk 9 (some 131) c9 ?_;refine tk 10 (some 132) c9 ?_;refine tk 11 (some 133) c9 ?_;refine nm ?_;refine oD 12 fun a1 S=>?_
  refine aA (by kernel_rfl) (.tmp 133) (.tmp 130) z w.1.size 10 109 (.slice (some (ad g6 0)) (D.P.nm.length+1) s7) a4 z z z z (d9.o.f.below c9) (by rw[A7.o.1];decide) ?_;intro U6 M V;have j6:=O (EQ M V);refine S _ _ nofun ?_;simp only[Gf];refine dn ?_;have Q:=aG.tight (ok:=fun c=>ok c∨w.1.size+3<=c) (aG.Fz (aG.CQ (fun c j=>j.1) (h9.o.below c9)) (Ro.CQ (fun c j=> .inr (by have X:V6.1.size<=c:=j;have:=d9.o.lt;omega)) (Ro.of o7)));have A3:=O ((d9.o.below c9).Dc j6.o.1 j6.o.2);have t8:=O (dr J Q j6.o.2 rl (by omega));generalize a4.set 10 (.slice (some (ad g6 0)) (D.P.nm.length+1) s7)=G0 at *;go_wp2_with fail;refine a3.o _ _ ?_;exact fC J (by decide) (by exact N.o.names) A3 t8 (O (b7.o _ z))
 .have hm:=N.o.lens;have c3:=(A.o.f.cell 3).trans K.o.ints.2.1;have g3:=A.o.f.frozen 3;have v4:(D.P.conds:Int)<100:=by omega
  go_wp2_with fail;have b6:=A.o.Dc (A.o.f.set1 3 (I ((D.P.conds:Int)+1))) (Ch.one 3 _ W);have b4:=dr J (aG.s3 K.o (D.P.conds+1)) (Ch.one (b:=w.1.size) 3 (I ((D.P.conds:Int)+1)) W) rl (by omega);rw[show ((D.P.conds+1:Nat):Int)=(D.P.conds:Int)+1 from rfl]at b4;generalize Gc _ _ _=Wa at *;generalize cs.set 3 _=a4 at *;let ⟨V7,g1⟩:=eX (Wa.drew)
  have e7:Hid (Dq w a4 _ V7):=O (by rw[<-g1];exact b6.below (FB _ Wa).drew);have j5:Hid (aG (jw ok w V7) V7 ({D with P:={D.P with conds:=D.P.conds+1}}:DF) a4):=O (by rw[<-g1];exact cD b4 (FB _ Wa).drew);let ⟨E2,D6,y9,q6⟩:=aG.FA j5.o
  have u6:=O j5.o.cells;let ⟨i7,z7,A2,y6,A9,C0,C1⟩:=bJ kC
  have B0:prog.underlying 26=some (.slice fl.ty):=by kernel_rfl
  refine al [12] (fun W=>bL V7 W) a9 ?_;rw[g1];have e3:Hid (bL V7 V7):=O (FB _ V7);refine ke 0 ?_;refine fK _ 3 (fun G H=> ((e7.o.f.below H).cell 11).trans y9) ?_;refine nm ?_;refine fa 5 ?_;refine fK (fun G=>G.cell? ⟨w.1.size+1,3,none⟩=some (.string C)) 6 (fun G H=>by rw[(e7.o.d.below H).cell];rfl) ?_;refine nm ?_
  refine dS (E:=fl) 4 7 8 149 152 153 26 (.const (.slice none 0 0)) (.tmp 148) (.tmp 151) z z z ⟨z,z,z⟩ ⟨z,z,z⟩ (by kernel_rfl) (by kernel_rfl) (by kernel_rfl) (by kernel_rfl) (by decide) z z z (by kernel_rfl) (by decide) ⟨148,z,by decide⟩ ⟨151,z,by decide⟩ (fun _=>z) B0 A2 y6 A9 C0 (by decide) (by decide) C1 z q6 (fun _ _ _ _ _ h=>h) (by have:=N.o.lens;show D.P.nc.length<=1000000;omega) (.string C) [.string C] C z z (fun _ _=>z) (fun _ h=>h) (fun v1 v2 g7 m8 W7 p0 b9=>?_);refine nm ?_;refine tk 9 (some 154) b9 ?_;refine tk 10 (some 155) b9 ?_;refine tk 11 (some 156) b9 ?_;refine nm ?_;refine oD 12 fun a1 S=>?_
  refine aA (by kernel_rfl) (.tmp 156) (.tmp 153) z w.1.size 11 109 (.slice (some (ad g7 0)) (D.P.nc.length+1) m8) a4 z z z z (e7.o.f.below b9) (by rw[u6.o.1];decide) ?_;intro U7 M V;have l4:=O (EQ M V);refine S _ _ nofun ?_;simp only[Gf];refine dn ?_;have Q:=aG.tight (ok:=fun c=>ok c∨w.1.size+3<=c) (aG.Fs (aG.CQ (fun c j=>j.1) (j5.o.below b9)) (Ro.CQ (fun c j=> .inr (by have X:V7.1.size<=c:=j;have:=e7.o.lt;omega)) (Ro.of p0)));have v5:=O ((e7.o.below b9).Dc l4.o.1 l4.o.2);have B7:=O (dr J Q l4.o.2 rl (by omega));generalize a4.set 11 (.slice (some (ad g7 0)) (D.P.nc.length+1) m8)=E0 at *;go_wp2_with fail;refine a3.o _ _ ?_;exact fC J (by decide) (by exact N.o.names) v5 B7 (O (b7.o _ z))
 .by_cases g:num<1∨16<num
  .have b5:Hid (R=D.DA 134 (l,c)):=O (b7.o _ (by show (if num<1∨16<num then _ else _)=_;exact aD g));obtain⟨va,f3,F,-⟩:=K.o.r4;have c4:=(A.o.f.cell 4).trans F;by_cases X:num<1
   .skip;have hf:=bP D _ 134 (l,c) cs W K.o;go_wp2_with (first| (with_reducible refine l1 171 109 ?_;refine ac a6 a5 aj z (.tmp 2) z w.1.size cs z (O A.o.f) HL.o.1 ?_));refine hf.mono ?_;rintro e Y ⟨⟨es,rfl,hd⟩,g⟩;have a2:=O (A.o.below g);have a7:Hid (aG (jw ok w Y) Y _ es):=O (hd.CQ fun c j=>⟨j.1,FJ j.2 g.size⟩);have Z:=O hd.cells;go_wp2_with (first| (with_reducible refine s0 109 ?_;refine af aj z (.tmp 4) (.tmp 174) z (w.1.size+1+1) es _ z z a2.o.z z Z.o ?_;intro W7 k7 c7;have U:=O (EQ k7 c7);clear k7 c7));rw[b5.o];refine aC a6 a5 aj U.o.1 Z.o.1 z z z ?_;exact fr J a2.o a7.o U.o.2
   have h2:16<num:=by omega
   have hf:=bP D _ 134 (l,c) cs W K.o;go_wp2_with (first| (with_reducible refine l1 171 109 ?_;refine ac a6 a5 aj z (.tmp 2) z w.1.size cs z (O A.o.f) HL.o.1 ?_));refine hf.mono ?_;rintro e Y ⟨⟨es,rfl,hd⟩,g⟩;have a2:=O (A.o.below g);have a7:Hid (aG (jw ok w Y) Y _ es):=O (hd.CQ fun c j=>⟨j.1,FJ j.2 g.size⟩);have Z:=O hd.cells;go_wp2_with (first| (with_reducible refine s0 109 ?_;refine af aj z (.tmp 4) (.tmp 174) z (w.1.size+1+1) es _ z z a2.o.z z Z.o ?_;intro W7 k7 c7;have U:=O (EQ k7 c7);clear k7 c7));rw[b5.o];refine aC a6 a5 aj U.o.1 Z.o.1 z z z ?_;exact fr J a2.o a7.o U.o.2
  .have X:¬num<1:=by omega
   have h2:¬16<num:=by omega
   obtain⟨va,f3,F,-⟩:=K.o.r4;have c4:=(A.o.f.cell 4).trans F;go_wp2_with fail;have l9:=O g;let ⟨V8,f7⟩:=eX (W.drew)
   have d1:Hid (Dq w cs _ V8):=O (by rw[<-f7];exact A.o.below (FB _ W).drew);have h7:Hid (aG (jw ok w V8) V8 D cs):=O (by rw[<-f7];exact cD K.o (FB _ W).drew);let ⟨D5,F1,x1,p9⟩:=aG.r4 h7.o
   have A6:=O h7.o.cells;let ⟨i8,z8,C9,B9,x2,A0,z1⟩:=bJ sM
   have y4:prog.underlying 24=some (.slice (lg 3).ty):=by kernel_rfl
   refine al [10] (fun W=>bL V8 W) a9 ?_;rw[f7];have f2:Hid (bL V8 V8):=O (FB _ V8);refine nk 0 ?_;refine fK _ 2 (fun G H=> ((d1.o.f.below H).cell 4).trans x1) ?_;refine fa 4 ?_;refine nm ?_;refine fK (fun G=>G.cell? ⟨w.1.size+1,4,none⟩=some (.int .i64 num)) 5 (fun G H=>by rw[(d1.o.d.below H).cell];rfl) ?_;refine nm ?_
   refine dS (E:=(lg 3)) 3 6 7 178 181 182 24 (.const (.slice none 0 0)) (.tmp 177) (.tmp 180) z z z ⟨z,z,z⟩ ⟨z,z,z⟩ (by kernel_rfl) (by kernel_rfl) (by kernel_rfl) (by kernel_rfl) (by decide) z z z (by kernel_rfl) (by decide) ⟨177,z,by decide⟩ ⟨180,z,by decide⟩ (fun _=>z) y4 C9 B9 x2 A0 (by decide) (by decide) z1 z p9 (fun _ _ _ _ _ h=>h) (by have:=N.o.lens;show D.P.CX.length<=1000000;omega) (I num) [I num] num z z (fun _ _=>z) (fun _ h=>h) (fun v1 v2 g8 q5 W8 p2 d4=>?_);refine nm ?_;refine tk 8 (some 183) d4 ?_;refine tk 9 (some 184) d4 ?_;refine nm ?_;refine oD 10 fun a1 S=>?_
   refine aA (by kernel_rfl) (.tmp 184) (.tmp 182) z w.1.size 4 109 (.slice (some (ad g8 0)) ((D:DF).P.CX.length+1) q5) cs z z z z (d1.o.f.below d4) (by rw[A6.o.1];decide) ?_;intro U8 M V;have j4:=O (EQ M V);refine S _ _ nofun ?_;simp only[Gf];refine dn ?_;have Q:=aG.tight (ok:=fun c=>ok c∨w.1.size+3<=c) (aG.s4 (aG.CQ (fun c j=>j.1) (h7.o.below d4)) (Ro.CQ (fun c j=> .inr (by have X:V8.1.size<=c:=j;have:=d1.o.lt;omega)) (Ro.of p2)));have r7:=O ((d1.o.below d4).Dc j4.o.1 j4.o.2);have q8:=O (dr J Q j4.o.2 rl (by omega));generalize cs.set 4 (.slice (some (ad g8 0)) ((D:DF).P.CX.length+1) q5)=h5 at *;go_wp2_with fail;let ⟨V9,j3⟩:=eX (U8.drew)
   have e6:Hid (Dq w h5 _ V9):=O (by rw[<-j3];exact r7.o.below (FB _ U8).drew);have k0:Hid (aG (jw ok w V9) V9 ({D with P:={(D:DF).P with CX:=(D:DF).P.CX++[num]}}:DF) h5):=O (by rw[<-j3];exact cD q8.o (FB _ U8).drew);let ⟨F2,E8,y1,o9⟩:=aG.Fy k0.o
   have w5:=O k0.o.cells;let ⟨i9,z9,l7,m0,y7,C7,t6⟩:=bJ kC
   have A1:prog.underlying 26=some (.slice fl.ty):=by kernel_rfl
   refine al [12] (fun W=>bL V9 W) a9 ?_;rw[j3];have d6:Hid (bL V9 V9):=O (FB _ V9);refine ke 0 ?_;refine fK _ 3 (fun G H=> ((e6.o.f.below H).cell 12).trans y1) ?_;refine nm ?_;refine fa 5 ?_;refine fK (fun G=>G.cell? ⟨w.1.size+1,3,none⟩=some (.string C)) 6 (fun G H=>by rw[(e6.o.d.below H).cell];rfl) ?_;refine nm ?_
   refine dS (E:=fl) 4 7 8 189 192 193 26 (.const (.slice none 0 0)) (.tmp 188) (.tmp 191) z z z ⟨z,z,z⟩ ⟨z,z,z⟩ (by kernel_rfl) (by kernel_rfl) (by kernel_rfl) (by kernel_rfl) (by decide) z z z (by kernel_rfl) (by decide) ⟨188,z,by decide⟩ ⟨191,z,by decide⟩ (fun _=>z) A1 l7 m0 y7 C7 (by decide) (by decide) t6 z o9 (fun _ _ _ _ _ h=>h) (by have:=N.o.lens;show D.P.nh.length<=1000000;omega) (.string C) [.string C] C z z (fun _ _=>z) (fun _ h=>h) (fun v1 v2 g9 q7 W9 p1 d0=>?_);refine nm ?_;refine tk 9 (some 194) d0 ?_;refine tk 10 (some 195) d0 ?_;refine tk 11 (some 196) d0 ?_;refine nm ?_;refine oD 12 fun a1 S=>?_
   refine aA (by kernel_rfl) (.tmp 196) (.tmp 193) z w.1.size 12 109 (.slice (some (ad g9 0)) ((D:DF).P.nh.length+1) q7) h5 z z z z (e6.o.f.below d0) (by rw[w5.o.1];decide) ?_;intro U9 M V;have j8:=O (EQ M V);refine S _ _ nofun ?_;simp only[Gf];refine dn ?_;have Q:=aG.tight (ok:=fun c=>ok c∨w.1.size+3<=c) (aG.Fv (aG.CQ (fun c j=>j.1) (k0.o.below d0)) (Ro.CQ (fun c j=> .inr (by have X:V9.1.size<=c:=j;have:=e6.o.lt;omega)) (Ro.of p1)));have B8:=O ((e6.o.below d0).Dc j8.o.1 j8.o.2);have C6:=O (dr J Q j8.o.2 rl (by omega));generalize h5.set 12 (.slice (some (ad g9 0)) ((D:DF).P.nh.length+1) q7)=F4 at *;go_wp2_with fail;refine a3.o _ _ ?_
   exact fC J (by decide) (by exact N.o.names) B8 C6 (O (b7.o _ (by show (if num<1∨16<num then _ else _)=_;exact am l9.o)))
 .skip;obtain⟨va,f3,F,-⟩:=K.o.r5;have c5:=(A.o.f.cell 5).trans F;go_wp2_with fail;let ⟨a8,h6⟩:=eX (W.drew)
  have d2:Hid (Dq w cs _ a8):=O (by rw[<-h6];exact A.o.below (FB _ W).drew);have h0:Hid (aG (jw ok w a8) a8 D cs):=O (by rw[<-h6];exact cD K.o (FB _ W).drew);let ⟨E6,F6,u0,p8⟩:=aG.r5 h0.o
  have u1:=O h0.o.cells;let ⟨D9,F5,u3,D2,B6,v7,w3⟩:=bJ sJ
  have x4:prog.underlying 25=some (.slice gh.ty):=by kernel_rfl
  refine al [11] (fun W=>bL a8 W) a9 ?_;rw[h6];have e1:Hid (bL a8 a8):=O (FB _ a8);refine nk 0 ?_;refine fK _ 2 (fun G H=> ((d2.o.f.below H).cell 5).trans u0) ?_;refine fa 4 ?_;refine nm ?_;refine fK (fun G=>G.cell? ⟨w.1.size+1,3,none⟩=some (.string C)) 5 (fun G H=>by rw[(d2.o.d.below H).cell];rfl) ?_;refine fa 6 ?_;refine nm ?_
  refine dS (E:=gh) 3 7 8 206 210 211 25 (.const (.slice none 0 0)) (.tmp 205) (.tmp 209) z z z ⟨z,z,z⟩ ⟨z,z,z⟩ (by kernel_rfl) (by kernel_rfl) (by kernel_rfl) (by kernel_rfl) (by decide) z z z (by kernel_rfl) (by decide) ⟨205,z,by decide⟩ ⟨209,z,by decide⟩ (fun _=>z) x4 u3 D2 B6 v7 (by decide) (by decide) w3 z p8 (fun W cs x hm _ h=>by let ⟨a,cap,X,h2,h3⟩:=h;have g:=N.o.body x hm;exact⟨a,cap,X,h2,by rw[g];unfold aE;trivial⟩) (by have:=N.o.lens;show D.P.threads.length<=1000000;omega) (.agg #[.string C,I 0,.slice none 0 0]) [.string C,I 0,.slice none 0 0] ⟨C,0,[]⟩ z z (fun ok W=>⟨none,0,z,⟨rl,by decide⟩,by unfold aE;trivial⟩) (fun _ h=>h) (fun v1 v2 p5 n9 D4 o0 g=>?_);have d3:=O g;refine nm ?_
  refine nk 9 ?_;refine nm ?_;refine oD 11 fun a1 S=>?_;refine aA (by kernel_rfl) (.tmp 213) (.tmp 211) z w.1.size 5 109 (.slice (some (ad p5 0)) (D.P.threads.length+1) n9) cs z z z z (d2.o.f.below d3.o) (by rw[u1.o.1];decide) ?_;intro E9 M V;have f8:=O (EQ M V);refine S _ _ nofun ?_;simp only[Gf];refine dn ?_;have Q:=aG.tight (ok:=fun c=>ok c∨w.1.size+3<=c) (aG.s5 (aG.CQ (fun c j=>j.1) (h0.o.below d3.o)) (Ro.CQ (fun c j=> .inr (by have X:a8.1.size<=c:=j;have:=d2.o.lt;omega)) (Ro.of o0)));have w2:=O ((d2.o.below d3.o).Dc f8.o.1 f8.o.2);have y5:=O (dr J Q f8.o.2 rl (by omega));generalize cs.set 5 (.slice (some (ad p5 0)) (D.P.threads.length+1) n9)=E7 at *;go_wp2_with fail;refine a3.o _ _ ?_
  exact fC J (by decide) (by exact N.o.names) w2 y5 (O (b7.o _ z))
mutual
def St.cl:St->Prop
 | .mk _ _ _ _ _ _ _ body els _ _ _ lo=>lo=false/\St.cls body/\St.cls els
def St.cls:List St->Prop
 | []=>True
 |s::r=>s.cl/\St.cls r
end
theorem yF{P:Pg}{L:List Nm}{loc mo:Nat}(h:hq D P L n loc mo)(p:Int×Int)(k:Int)(s:ByteArray)(sl:Int)(q:Nat)(b:Bool)(G:1<=q)(E:q<=6)(A:eu k=(q,if b then 100 else q)):
  match hs L s q b p with
  | .error e=>ir (D.stW p k s sl false).1 e
  | .ok x=>D.stW p k s sl false=(D,(x.slot:Int),if b then decide (x.kind=0) else false):=by
 have j:=gQ h.CR h.names h.nd h.kd s q G E b p
 unfold DF.stW
 rw[A]
 rw[aD (by show q≠0;omega)]
 cases g:hs L s q b p with
 |error e=>
  rw[g]at j
  exact j
 |ok x=>
  rw[g]at j
  let ⟨F,C⟩:=j
  show (_,_,_)=_
  rw[F]
  show (D,((gz x).slot:Int),decide ((gz x).kind=100))=_
  rw[oQ C]
  cases b with
  |true=>rfl
  |false=>
   have J:x.kind=q:=by
    unfold hs at g
    split at g
    .cases g
    .split at g
     .cases g
     .rename_i w
      cases g
      simpa using w
   have H:decide (x.kind=0)=false:=by
    rw[decide_eq_false_iff_not]
    omega
   rw[H]
   rfl
theorem sI(k:Int):(nY k=none/\eu k=(0,0)/\kJ k=none)∨∃q b,nY k=some (q,b)/\1<=q/\q<=6/\eu k=(q,if b then 100 else q)/\((k=8/\kJ k=some (3,false))∨(k=12/\kJ k=some (1,true))∨(k≠8/\k≠12/\kJ k=none)):=by
 unfold nY eu kJ;by_cases A:k=2
 .right;exact⟨1,true,by subst A;simp⟩
 by_cases j:k=3
 .right;exact⟨2,false,by subst j;simp⟩
 by_cases w:k=6∨k=7
 .right;exact⟨3,false,by rcases w with rfl|rfl<;>simp⟩
 by_cases C:k=8∨k=9∨k=10
 .right;exact⟨4,false,by rcases C with rfl|rfl|rfl<;>simp⟩
 by_cases D:k=11∨k=12
 .right;exact⟨5,false,by rcases D with rfl|rfl<;>simp⟩
 by_cases g:k=13
 .right;exact⟨6,false,by subst g;simp⟩
 left;rw[am A,am j,am w,am C,am D,am g,am A,am j,am w,am C,am D,am g,am (by omega),am (by omega)];exact⟨z,z,z⟩
theorem AG{P:Pg}{L:List Nm}{loc mo:Nat}(h:hq D P L n loc mo)(p:Int×Int)(k:Int)(s t:ByteArray)(sl ot:Int)(N:k≠1):
  match dW L loc p k s t sl ot false with
  | .error e=>ir (D.DR p k s t sl ot false).1 e
  | .ok r=>D.DR p k s t sl ot false=(D,r):=by
 unfold dW DF.DR
 rw[am N,am N]
 rcases sI k with ⟨H,G,g⟩|⟨q,b,H,R,Q,G,g⟩
 .rw[H]
  have S:D.stW p k s sl false=(D,sl,false):=by
   unfold DF.stW
   rw[G]
   rfl
  have A:k≠8:=by rintro rfl;revert g;decide
  have w:k≠12:=by rintro rfl;revert g;decide
  rw[am A,am w,S]
 .rw[H]
  have F:=yF h p k s sl q b R Q G
  simp only
  cases K:hs L s q b p with
  |error e=>
   rw[K]at F
   have C:=F
   have M:(D.stW p k s sl false).1.CR≠0:=by rw[C.2.1];exact C.1
   simp only
   by_cases A:k=8
   .rw[aD A]
    show ir (DF.CZ _ t 3 3 p).1 e
    rw[dE M]
    exact C
   .rw[am A]
    by_cases w:k=12
    .rw[aD w]
     show ir (DF.CZ _ t 1 100 p).1 e
     rw[dE M]
     exact C
    .rw[am w]
     exact C
  |ok x=>
   rw[K]at F
   have C:=F
   rw[C]
   simp only
   rcases g with ⟨A,g⟩|⟨w,g⟩|⟨A,w,g⟩
   .rw[g,aD A]
    have j:=gQ h.CR h.names h.nd h.kd t 3 (by decide) (by decide) false p
    simp only
    cases E:hs L t 3 false p with
    |error e=>
     rw[E]at j
     exact j
    |ok y=>
     rw[E]at j
     have J:D.CZ t 3 3 p=(D,gz y):=j.1
     rw[J]
     rfl
   .rw[g,am (show ¬k=8 by omega),aD w]
    have j:=gQ h.CR h.names h.nd h.kd t 1 (by decide) (by decide) true p
    simp only
    cases E:hs L t 1 true p with
    |error e=>
     rw[E]at j
     exact j
    |ok y=>
     rw[E]at j
     have J:D.CZ t 1 100 p=(D,gz y):=j.1
     rw[J]
     show (D,_,_,decide ((gz y).kind=100))=_
     rw[oQ j.2]
     rfl
   .rw[g,am A,am w]
theorem hq.back{D':DF}{P:Pg}{L:List Nm}{loc mo:Nat}(h:hq D P L n loc mo)(g:hq D' P N j n5 n0):hq (D'.back D) P L j loc n0:=⟨g.CR,h.names,g.prog,h.locals,g.CY,h.nd,h.kd⟩
theorem zB{P:Pg}{L:List Nm}{loc mo:Nat}(h:hq D P L n loc mo)(N:loc<=32)(p:Int×Int)(s t:ByteArray)(sl ot:Int)(lo:Bool):
  match dW L loc p 1 s t sl ot lo with
  | .error e=>ir (D.DR p 1 s t sl ot lo).1 e
  | .ok r=> (D.DR p 1 s t sl ot lo).2=r/\hq (D.DR p 1 s t sl ot lo).1 P (L++[⟨s,0,loc⟩]) n (loc+1) (max mo (loc+1))/\loc+1<=32:=by
 unfold dW DF.DR
 rw[aD rfl,aD rfl]
 have M:D.stW p 1 s sl lo=(D,sl,lo):=z
 rw[M]
 simp only
 by_cases A:(ex L s).isSome=true
 .rw[aD A]
  let ⟨x,g⟩:=IX.1 A
  obtain⟨i,H,-⟩:=jN h.names h.nd g
  have j:D.DG p s=D.DA 130 p:=by
   unfold DF.DG
   rw[H]
   rfl
  rw[j]
  have C:=dD h.CR (e:=130) (by decide) p
  have K:(D.DA 130 p).CR≠0:=by rw[C.2.1];exact C.1
  have w:(D.DA 130 p).DD p=D.DA 130 p:=by
   unfold DF.DD
   split
   .exact eS K _ _
   .rfl
  rw[w]
  exact C
 .rw[am A]
  have F:ex L s=none:=by
   cases g:ex L s with
   |none=>rfl
   |some x=>rw[g]at A;simp at A
  have j:D.DG p s=D:=by
   unfold DF.DG
   rw[jy h.names s F]
   rfl
  rw[j]
  by_cases E:loc=32
  .rw[aD E]
   have w:D.DD p=D.DA 134 p:=by
    unfold DF.DD
    rw[aD (by rw[h.locals,E];decide)]
   rw[w]
   exact dD h.CR (e:=134) (by decide) p
  .rw[am E]
   have w:D.DD p=D:=by
    unfold DF.DD
    rw[am (by rw[h.locals];omega)]
   rw[w]
   refine⟨by rw[h.locals],⟨h.CR,?_,h.prog,?_,?_,?_,?_⟩,by omega⟩
   .show D.names++_=_
    rw[h.names,IM,h.locals]
    rfl
   .show D.locals+1=_
    rw[h.locals]
   .show max D.CY (D.locals+1)=_
    rw[h.locals,h.CY]
   .rw[IM,List.nodup_append]
    refine⟨h.nd,by simp,?_⟩
    intro a J b j G
    simp at j
    obtain⟨x,g,rfl⟩:=HM.1 J
    have:=Hb.1 F x g
    simp at this
    exact this (G.trans j)
   .intro x g
    rcases GG.1 g with g|g
    .exact h.kd x g
    .simp at g
     subst g
     exact FX _
def xI:St->Int
 | .mk k _ _ _ _ _ _ _ _ _ _ _ _=>k
def wB(L:List Nm)(loc:Nat):St->List Nm
 | .mk k _ _ s _ _ _ _ _ _ _ _ _=>if k=1 then L++[⟨s,0,loc⟩] else L
def sL(loc:Nat)(s:St):Nat:=if xI s=1 then loc+1 else loc
def xp(loc mo:Nat)(s:St):Nat:=if xI s=1 then max mo (loc+1) else mo
theorem rz(L:List Nm)(loc n mo:Nat)(s:St)(r:List St):cb L loc n mo (s::r)=match ly L loc n mo s with
  | .error e=> .error e
  | .ok (A,n2,j)=>match cb (wB L loc s) (sL loc s) n2 (xp loc j s) r with
   | .error e=> .error e
   | .ok (r',n3,mo3)=> .ok (A::r',n3,mo3):=by
 rw[cb]
 cases ly L loc n mo s with
 |error e=>rfl
 |ok q=>
  let ⟨A,n2,j⟩:=q
  let ⟨k,l,c,w,t,x,y,body,els,id,sl,ot,lo⟩:=s
  by_cases g:k=1
  .subst g
   rfl
  .have C:wB L loc (.mk k l c w t x y body els id sl ot lo)=L:=am g
   have D:sL loc (.mk k l c w t x y body els id sl ot lo)=loc:=am g
   have E:xp loc j (.mk k l c w t x y body els id sl ot lo)=j:=am g
   simp only[C,D,E,am g]
   rfl
mutual
theorem yD (nm:ByteArray->Bool) {P:Pg}:∀ (s:St) {D:DF} {L:List Nm} {n loc mo d:Nat},jv nm s d=true->s.cl->hq D P L n loc mo->loc<=32->n<=512->
  match ly L loc n mo s with
  | .error e=>ir (DF.st s D).1 e
  | .ok (s',n2,mo2)=> (DF.st s D).2=s'/\hq (DF.st s D).1 P (wB L loc s) n2 (sL loc s) (xp loc mo2 s)/\sL loc s<=32/\n2<=512
 | .mk k l c s t x y body els id sl ot lo,D,L,n,loc,mo,d,hR,hcl,hA,hl,hn=>by
  rw[DF.st,ly]
  rw[St.cl]at hcl
  obtain⟨rfl,hcb,hce⟩:=hcl
  have hst:D.P.stmts=n:=by rw[hA.prog]
  by_cases h512:n=512
  .rw[if_pos h512,if_pos (by rw[hst,h512];decide)]
   exact dD hA.CR (e:=134) (by decide) (l,c)
  rw[if_neg h512,if_neg (by rw[hst];omega)]
  have hI:hq D.inc P L (n+1) loc mo:=⟨hA.CR,hA.names,by show (⟨_,_,_,_,_,_,_,_,_,_,_,_,_⟩:Pg)=_;rw[hst,hA.prog],hA.locals,hA.CY,hA.nd,hA.kd⟩
  have hy:=oC (l,c) hI.CR hI.names hI.nd hI.kd y
  have hx:=oC (l,c) hI.CR hI.names hI.nd hI.kd x
  have hbody:bB nm body (d+1)=true/\bB nm els (d+1)=true/\(k≠4->k≠5->body=[])/\(k≠4->els=[]):=by
   unfold jv at hR
   simp only[FG,Bool.or_eq_true,decide_eq_true_eq]at hR
   obtain⟨-,-,-,-,-,-,h1,h2,h3,h4⟩:=hR
   exact⟨h3,h4,fun a b=>by
    rcases h1 with (h1|h1)|h1
    .exact absurd h1 a
    .exact absurd h1 b
    .exact Hf.1 h1,fun a=>by
    rcases h2 with h2|h2
    .exact absurd h2 a
    .exact Hf.1 h2⟩
  obtain⟨hRb,hRe,hb0,he0⟩:=hbody
  have fin:∀ {E:DF} {f:fT} (a b:List St),ir E f->ir ((DF.Dp b ((DF.Dp a E).1.back E)).1.back ((DF.Dp a E).1.back E)) f:=fun {E f} a b hE=>by
   have h1:E.CR≠0:=by rw[hE.2.1];exact hE.1
   rw[ep h1]
   have h2:(E.back E).CR≠0:=h1
   rw[ep h2]
   exact hE
  cases hfy:hM L (l,c) y with
  |error e=>
   rw[hfy]at hy
   have hy':ir (DF.ex (l,c) y D.inc).1 e:=hy
   have hne:(DF.ex (l,c) y D.inc).1.CR≠0:=by rw[hy'.2.1];exact hy'.1
   simp only[jL (l,c) hne x]
   exact fin _ _ ((kP hne (l,c) k s t sl ot false).bad hy')
  |ok y'=>
   rw[hfy]at hy
   have hy':DF.ex (l,c) y D.inc=(D.inc,y'):=hy
   simp only[hy']
   cases hfx:hM L (l,c) x with
   |error e=>
    rw[hfx]at hx
    have hx':ir (DF.ex (l,c) x D.inc).1 e:=hx
    have hne:(DF.ex (l,c) x D.inc).1.CR≠0:=by rw[hx'.2.1];exact hx'.1
    exact fin _ _ ((kP hne (l,c) k s t sl ot false).bad hx')
   |ok x'=>
    rw[hfx]at hx
    have hx':DF.ex (l,c) x D.inc=(D.inc,x'):=hx
    simp only[hx']
    by_cases hk:k=1
    .subst hk
     have hb:=hb0 (by decide) (by decide)
     have he:=he0 (by decide)
     subst hb he
     have hh:=zB hI hl (l,c) s t sl ot false
     cases hfh:dW L loc (l,c) 1 s t sl ot false with
     |error e=>
      rw[hfh]at hh
      exact fin _ _ hh
     |ok r=>
      rw[hfh]at hh
      obtain⟨h1,h2,h3⟩:=hh
      obtain⟨r1,r2,r3⟩:=r
      simp only[DF.Dp,cb]
      refine⟨?_,?_,h3,by omega⟩
      .rw[h1,hst]
      .show hq _ _ (if (1:Int)=1 then L++[⟨s,0,loc⟩] else L) _ (if (1:Int)=1 then loc+1 else loc) (if (1:Int)=1 then max mo (loc+1) else mo)
       rw[if_pos rfl,if_pos rfl,if_pos rfl]
       have h4:=h2.back h2
       exact h4.back h4
    .have hh:=AG hI (l,c) k s t sl ot hk
     cases hfh:dW L loc (l,c) k s t sl ot false with
     |error e=>
      rw[hfh]at hh
      exact fin _ _ hh
     |ok r=>
      rw[hfh]at hh
      obtain⟨r1,r2,r3⟩:=r
      have hh':D.inc.DR (l,c) k s t sl ot false=(D.inc,r1,r2,r3):=hh
      simp only[hh']
      have hB:=jC nm body hRb hcb hI hl (by omega)
      cases hfb:cb L loc (n+1) mo body with
      |error e=>
       rw[hfb]at hB
       have hB':ir (DF.Dp body D.inc).1 e:=hB
       have hne:((DF.Dp body D.inc).1.back D.inc).CR≠0:=by show (DF.Dp body D.inc).1.CR≠0;rw[hB'.2.1];exact hB'.1
       simp only[ep hne]
       exact hB'
      |ok rb=>
       rw[hfb]at hB
       obtain⟨b',n2,mo2⟩:=rb
       obtain⟨hb1,L',loc',hb2,hb3⟩:=hB
       have hA2:=hI.back hb2
       have hE:=jC nm els hRe hce hA2 hl hb3
       simp only
       cases hfe:cb L loc n2 mo2 els with
       |error e=>
        rw[hfe]at hE
        exact hE
       |ok re=>
        rw[hfe]at hE
        obtain⟨e',n3,mo3⟩:=re
        obtain⟨he1,L'',loc'',he2,he3⟩:=hE
        refine⟨?_,?_,?_,he3⟩
        .rw[hb1,he1,hst]
        .show hq _ _ (if k=1 then L++[⟨s,0,loc⟩] else L) _ (if k=1 then loc+1 else loc) (if k=1 then max mo3 (loc+1) else mo3)
         rw[if_neg hk,if_neg hk,if_neg hk]
         exact hA2.back he2
        .show (if k=1 then loc+1 else loc)<=32
         rw[if_neg hk]
         exact hl
theorem jC (nm:ByteArray->Bool) {P:Pg}:∀ (r:List St) {D:DF} {L:List Nm} {n loc mo d:Nat},bB nm r d=true->St.cls r->hq D P L n loc mo->loc<=32->n<=512->
  match cb L loc n mo r with
  | .error e=>ir (DF.Dp r D).1 e
  | .ok (r',n2,mo2)=> (DF.Dp r D).2=r'/\∃L' loc',hq (DF.Dp r D).1 P L' n2 loc' mo2/\n2<=512
 | [],D,L,n,loc,mo,d,_,_,hA,hl,hn=>by
  rw[DF.Dp,cb]
  exact⟨rfl,L,loc,hA,hn⟩
 |s::r,D,L,n,loc,mo,d,hR,hcl,hA,hl,hn=>by
  rw[DF.Dp,rz,if_neg (by rw[hA.CR];decide)]
  rw[St.cls]at hcl
  rw[bB,FG]at hR
  have hs:=yD nm s hR.1 hcl.1 hA hl hn
  cases hfs:ly L loc n mo s with
  |error e=>
   rw[hfs]at hs
   have hs':ir (DF.st s D).1 e:=hs
   have hne:(DF.st s D).1.CR≠0:=by rw[hs'.2.1];exact hs'.1
   simp only[ep hne]
   exact hs'
  |ok q=>
   rw[hfs]at hs
   obtain⟨s',n2,mo2⟩:=q
   obtain⟨h1,h2,h3,h4⟩:=hs
   have hr:=jC nm r hR.2 hcl.2 h2 h3 h4
   simp only
   cases hfr:cb (wB L loc s) (sL loc s) n2 (xp loc mo2 s) r with
   |error e=>
    rw[hfr]at hr
    exact hr
   |ok q=>
    rw[hfr]at hr
    obtain⟨r',n3,mo3⟩:=q
    obtain⟨g1,L',loc',g2,g3⟩:=hr
    exact⟨by rw[h1,g1],L',loc',g2,g3⟩
end
theorem iC{P:Pg}{L:List Nm}(d:De)(h:hq D P L 0 0 0)(w:L.length=i)(G:1<=d.kind)(H:d.kind<=6)(F:ex L d.name=none):
  if 64<=i then ir (D.Eb d n) ((d.line,d.Dm),134) else hq (D.Eb d n) P (L++[Nm.mk d.name d.kind.toNat n]) 0 0 0/\(D.Eb d n).cells=D.cells/\(L++[Nm.mk d.name d.kind.toNat n]).length=i+1:=by
 have E:D.names.length=i:=by rw[h.names,List.length_map,w]
 unfold DF.Eb;rw[E];split
 .exact dD h.CR (e:=134) (by decide) _
 .refine⟨⟨h.CR,?_,h.prog,h.locals,h.CY,?_,?_⟩,z,by simp[w]⟩
  .show D.names++_=_;rw[h.names,IM];have:gz ⟨d.name,d.kind.toNat,n⟩=⟨d.name,d.kind.toNat,n⟩:=by unfold gz;rw[am (show ¬d.kind.toNat=0 by omega)]
   simp[this]
  .rw[IM,List.nodup_append];refine⟨h.nd,by simp,?_⟩;intro a C b j A;simp at j;obtain⟨x,g,rfl⟩:=HM.1 C;have:=Hb.1 F x g;simp at this;exact this (A.trans j)
  .intro x g;rcases GG.1 g with g|g
   .exact h.kd x g
   .simp at g;subst g;show d.kind.toNat<=6;omega
theorem qy{nm:ByteArray->Bool}{d:De}(h:fI nm d=true):1<=d.kind/\d.kind<=6/\(d.kind=1->-2147483647<=d.num/\d.num<=2147483647)/\(d.kind=6->bB nm d.body 1=true):=by
 unfold fI at h;simp only[FG]at h;obtain⟨-,-,h⟩:=h;by_cases j:d.kind=1
 .rw[aD j]at h;simp only[FG,decide_eq_true_eq]at h;exact⟨by omega,by omega,fun _=>h,fun _=>by omega⟩
 rw[am j]at h;by_cases w:d.kind=2∨d.kind=5
 .exact⟨by omega,by omega,fun _=>by omega,fun _=>by omega⟩
 rw[am w]at h;by_cases A:d.kind=3∨d.kind=4
 .exact⟨by omega,by omega,fun _=>by omega,fun _=>by omega⟩
 rw[am A]at h;by_cases g:d.kind=6
 .rw[aD g]at h;simp only[FG]at h;exact⟨by omega,by omega,fun _=>by omega,fun _=>h.2⟩
 rw[am g]at h;cases h
theorem vc{nm:ByteArray->Bool}{P:Pg}{L:List Nm}{cells:Int}(d:De)(Z:fI nm d=true)(h:hq D P L 0 0 0)(A:P.stmts=0)(H:D.cells=cells)(M:L.length=i):
  match gl P L cells i d with
  | .error e=>ir (D.dec d) e
  | .ok (P',L',cells')=>hq (D.dec d) P' L' 0 0 0/\P'.stmts=0/\(D.dec d).cells=cells'/\L'.length=i+1/\P'.threads.length=P.threads.length+(if d.kind=6 then 1 else 0):=by
 obtain⟨J,K,kv,-⟩:=qy Z
 have C:D.P=P:=by rw[h.prog,<-A]
 unfold gl DF.dec
 by_cases Q:(ex L d.name).isSome=true
 .let ⟨x,U⟩:=IX.1 Q
  obtain⟨j,Y,-⟩:=jN h.names h.nd U
  simp only[aD Q]
  rw[Y,aD (show (some j).isSome=true from rfl)]
  exact dD h.CR (e:=130) (by decide) _
 have F:ex L d.name=none:=by
  cases U:ex L d.name with
  |none=>rfl
  |some x=>rw[U]at Q;simp at Q
 rw[jy h.names _ F]
 simp only[am Q,Option.isSome_none,FN,if_false]
 by_cases G:d.kind=1
 .have:=kv G
  simp only[aD G,am (show ¬ (d.num< -2147483648∨2147483647<d.num) by omega)]
  have E:hq ({D with P:={D.P with vars:=D.P.vars++[d.num],nv:=D.P.nv++[d.name]}}:DF) {P with vars:=P.vars++[d.num],nv:=P.nv++[d.name]} L 0 0 0:=⟨h.CR,h.names,by show (⟨_,_,_,_,_,_,_,_,_,_,_,_,_⟩:Pg)=_;rw[C,A],h.locals,h.CY,h.nd,h.kd⟩
  have g:=iC (n:=D.P.vars.length) d E M J K F
  by_cases w:64<=i
  .rw[aD w]at g
   simp only[aD w]
   exact g
  .rw[am w]at g
   simp only[am w]
   rw[C]at g ⊢
   exact⟨g.1,A,g.2.1.trans H,g.2.2,by rw[am (by omega)];rfl⟩
 by_cases R:d.kind=2
 .simp only[am G,aD R]
  rw[H]
  by_cases N:d.num<1∨256<d.num∨256<cells+d.num
  .simp only[aD N]
   exact dD h.CR (e:=134) (by decide) _
  simp only[am N]
  have E:hq ({D with cells:=cells+d.num,P:={D.P with CW:=D.P.CW++[d.num],na:=D.P.na++[d.name]}}:DF) {P with CW:=P.CW++[d.num],na:=P.na++[d.name]} L 0 0 0:=⟨h.CR,h.names,by show (⟨_,_,_,_,_,_,_,_,_,_,_,_,_⟩:Pg)=_;rw[C,A],h.locals,h.CY,h.nd,h.kd⟩
  have g:=iC (n:=D.P.CW.length) d E M J K F
  by_cases w:64<=i
  .rw[aD w]at g
   simp only[aD w]
   exact g
  .rw[am w]at g
   simp only[am w]
   rw[C]at g ⊢
   exact⟨g.1,A,g.2.1,g.2.2,by rw[am (by omega)];rfl⟩
 by_cases S:d.kind=3
 .simp only[am G,am R,aD S]
  have E:hq ({D with P:={D.P with CT:=D.P.CT+1,nm:=D.P.nm++[d.name]}}:DF) {P with CT:=P.CT+1,nm:=P.nm++[d.name]} L 0 0 0:=⟨h.CR,h.names,by show (⟨_,_,_,_,_,_,_,_,_,_,_,_,_⟩:Pg)=_;rw[C,A],h.locals,h.CY,h.nd,h.kd⟩
  have g:=iC (n:=D.P.CT) d E M J K F
  by_cases w:64<=i
  .rw[aD w]at g
   simp only[aD w]
   exact g
  .rw[am w]at g
   simp only[am w]
   rw[C]at g ⊢
   exact⟨g.1,A,g.2.1.trans H,g.2.2,by rw[am (by omega)];rfl⟩
 by_cases V:d.kind=4
 .simp only[am G,am R,am S,aD V]
  have E:hq ({D with P:={D.P with conds:=D.P.conds+1,nc:=D.P.nc++[d.name]}}:DF) {P with conds:=P.conds+1,nc:=P.nc++[d.name]} L 0 0 0:=⟨h.CR,h.names,by show (⟨_,_,_,_,_,_,_,_,_,_,_,_,_⟩:Pg)=_;rw[C,A],h.locals,h.CY,h.nd,h.kd⟩
  have g:=iC (n:=D.P.conds) d E M J K F
  by_cases w:64<=i
  .rw[aD w]at g
   simp only[aD w]
   exact g
  .rw[am w]at g
   simp only[am w]
   rw[C]at g ⊢
   exact⟨g.1,A,g.2.1.trans H,g.2.2,by rw[am (by omega)];rfl⟩
 by_cases X:d.kind=5
 .simp only[am G,am R,am S,am V,aD X]
  by_cases N:d.num<1∨16<d.num
  .simp only[aD N]
   exact dD h.CR (e:=134) (by decide) _
  simp only[am N]
  have E:hq ({D with P:={D.P with CX:=D.P.CX++[d.num],nh:=D.P.nh++[d.name]}}:DF) {P with CX:=P.CX++[d.num],nh:=P.nh++[d.name]} L 0 0 0:=⟨h.CR,h.names,by show (⟨_,_,_,_,_,_,_,_,_,_,_,_,_⟩:Pg)=_;rw[C,A],h.locals,h.CY,h.nd,h.kd⟩
  have g:=iC (n:=D.P.CX.length) d E M J K F
  by_cases w:64<=i
  .rw[aD w]at g
   simp only[aD w]
   exact g
  .rw[am w]at g
   simp only[am w]
   rw[C]at g ⊢
   exact⟨g.1,A,g.2.1.trans H,g.2.2,by rw[am (by omega)];rfl⟩
 have W:d.kind=6:=by omega
 simp only[am G,am R,am S,am V,am X]
 rw[aD W,aD W]
 have E:hq ({D with P:={D.P with threads:=D.P.threads++[⟨d.name,0,[]⟩]}}:DF) {P with threads:=P.threads++[⟨d.name,0,[]⟩]} L 0 0 0:=⟨h.CR,h.names,by show (⟨_,_,_,_,_,_,_,_,_,_,_,_,_⟩:Pg)=_;rw[C,A],h.locals,h.CY,h.nd,h.kd⟩
 have g:=iC (n:=D.P.threads.length) d E M J K F
 by_cases w:64<=i
 .rw[aD w]at g
  simp only[aD w]
  exact g
 .rw[am w]at g
  simp only[am w]
  rw[C]at g ⊢
  exact⟨g.1,A,g.2.1.trans H,g.2.2,by simp⟩
def jq(l:List De):List (List St):=(l.filter fun d=>decide (d.kind=6)).map (·.body)
theorem jb(d:De)(l:List De):jq (d::l)=if d.kind=6 then d.body::jq l else jq l:=by
 unfold jq;rw[List.filter_cons];by_cases h:d.kind=6
 .rw[aD (by simpa using h),aD h];rfl
 .rw[am (by simpa using h),am h]
theorem rE(h:D.CR≠0)(l:List De):DF.Du l D=D:=by
 cases l with
 |nil=>rfl
 |cons d r=>rw[DF.Du,aD h]
theorem ox{nm:ByteArray->Bool}:∀ (l:List De) {D:DF} {P:Pg} {L:List Nm} {i:Nat} {cells:Int},(∀d∈l,fI nm d=true)->hq D P L 0 0 0->P.stmts=0->D.cells=cells->L.length=i->
  match jr P L cells i l with
  | .error e=>ir (DF.Du l D) e
  | .ok (g,A)=>hq (DF.Du l D) g A 0 0 0/\g.stmts=0/\DF.DN l D=jq l/\g.threads.length=P.threads.length+(jq l).length
 | [],D,P,L,i,cells,_,h,h0,_,_=>⟨h,h0,z,z⟩
 |d::r,D,P,L,i,cells,hR,h,h0,hc,hL=>by
  rw[DF.Du,DF.DN,jr,am (by rw[h.CR];decide),am (by rw[h.CR];decide)]
  have hd:=vc d (hR d (by simp)) h h0 hc hL
  cases E:gl P L cells i d with
  |error e=>
   rw[E]at hd
   have w:=hd
   show ir (DF.Du r (D.dec d)) e
   rw[rE (by rw[w.2.1];exact w.1)]
   exact w
  |ok q=>
   rw[E]at hd
   let ⟨g,A,K⟩:=q
   let ⟨N,R,F,S,H⟩:=hd
   have j:=ox r (fun d hd=>hR d (by simp[hd])) N R F S
   simp only
   cases C:jr g A K (i+1) r with
   |error e=>
    rw[C]at j
    exact j
   |ok q=>
    rw[C]at j
    let ⟨U,V⟩:=q
    let ⟨M,G,Q,J⟩:=j
    refine⟨M,G,?_,?_⟩
    .rw[Q,jb]
    .rw[J,H,jb]
     split
     .simp
      omega
     .rfl
def kW(L:List Nm):Nat->List (List St)->Except fT (List (List St×Nat)×Nat)
 |n,[]=> .ok ([],n)
 |n,b::r=>match cb L 0 n 0 b with
   | .error e=> .error e
   | .ok (b',n2,mo)=>match kW L n2 r with
    | .error e=> .error e
    | .ok (l,n3)=> .ok ((b',mo)::l,n3)
theorem mU(L:List Nm):∀ (l:List De) (n:Nat),gS L n l=kW L n (jq l)
 | [],_=>rfl
 |d::r,n=>by
  rw[gS,jb]
  by_cases h:d.kind=6
  .rw[aD h,aD h,kW]
   cases cb L 0 n 0 d.body with
   |error e=>rfl
   |ok q=>
    let ⟨b,n2,mo⟩:=q
    simp only
    rw[mU L r n2]
    rfl
  .rw[am h,am h]
   exact mU L r n
theorem er(h:D.CR≠0)(i:Nat)(l:List (List St)):DF.Eh i l D=D:=by
 cases l with
 |nil=>rfl
 |cons d r=>rw[DF.Eh,aD h]
theorem qv{nm:ByteArray->Bool}{P:Pg}{L:List Nm}:∀ (bl:List (List St)) {D:DF} {n mo i:Nat} {j g:List Th},(∀b∈bl,bB nm b 1=true/\St.cls b)->hq D {P with threads:=j++g} L n 0 mo->n<=512->j.length=i->bl.length<=g.length->
  match kW L n bl with
  | .error e=>ir (DF.Eh i bl D) e
  | .ok (E,n2)=>∃G,hq (DF.Eh i bl D) {P with threads:=j++df g E} L n2 0 G
 | [],D,n,mo,i,j,g,_,h,_,_,_=>⟨mo,by
   have:df g []=g:=by cases g<;>rfl
   rw[this]
   exact h⟩
 |b::r,D,n,mo,i,j,g,hb,h,hn,hi,hlen=>by
  rw[DF.Eh,kW,am (by rw[h.CR];decide)]
  have J:hq {D with CY:=0} {P with threads:=j++g} L n 0 0:=⟨h.CR,h.names,h.prog,h.locals,z,h.nd,h.kd⟩
  have F:=jC nm b (hb b (by simp)).1 (hb b (by simp)).2 J (by omega) hn
  unfold DF.CV
  cases M:cb L 0 n 0 b with
  |error e=>
   rw[M]at F
   have H:=F
   have R:(DF.Ej ((DF.Dp b {D with CY:=0}).1.back {D with CY:=0}) i (DF.Dp b {D with CY:=0}).2).CR≠0:=by
    show (DF.Dp b {D with CY:=0}).1.CR≠0
    rw[H.2.1]
    exact H.1
   show ir (DF.Eh (i+1) r _) e
   rw[er R]
   exact H
  |ok q=>
   rw[M]at F
   let ⟨b',n2,A⟩:=q
   let ⟨Y,L',a0,h2,N⟩:=F
   have w:=J.back h2
   simp only
   cases g with
   |nil=>simp at hlen
   |cons t g=>
    have X:hq (DF.Ej ((DF.Dp b {D with CY:=0}).1.back {D with CY:=0}) i (DF.Dp b {D with CY:=0}).2) {P with threads:=(j++[⟨t.name,A,b'⟩])++g} L n2 0 A:=by
     refine⟨w.CR,w.names,?_,w.locals,w.CY,w.nd,w.kd⟩
     unfold DF.Ej
     have V:=w.prog
     have W:=w.CY
     rw[V,W,Y]
     have e3:(j++t::g).getD i default=t:=by rw[<-hi];simp
     have S:∀x,(j++t::g).set i x=(j++[x])++g:=by intro x;rw[<-hi];simp
     simp only[e3,S]
    have C:=qv r (i:=i+1) (fun b U=>hb b (by simp[U])) X N (by simp[hi]) (by simp at hlen;omega)
    cases K:kW L n2 r with
    |error e=>
     rw[K]at C
     exact C
    |ok q=>
     rw[K]at C
     let ⟨E,n3⟩:=q
     let ⟨G,C⟩:=C
     refine⟨G,?_⟩
     have Z:df (t::g) ((b',A)::E)=⟨t.name,A,b'⟩::df g E:=z
     rw[Z]
     have Q:j++Th.mk t.name A b'::df g E=(j++[Th.mk t.name A b'])++df g E:=by simp
     rw[Q]
     exact C
theorem nZ{nm:ByteArray->Bool}{l:List De}(F:co nm l=true)(Z:∀d∈l,St.cls d.body):fg l=cW l:=by
 unfold co at F;rw[List.all_eq_true]at F;have S:hq ii fz [] 0 0 0:=⟨z,z,z,z,z,by simp,by simp⟩;have hd:=ox l F S z (show ii.cells=0 from z) (i:=0) z;unfold fg cW;cases Q:jr fz [] 0 0 l with
 |error e=>
  rw[Q]at hd;have H:=hd;have w:(DF.Du l ii).CR≠0:=by rw[H.2.1];exact H.1
  have C:(DF.Du l ii).Dj=DF.Du l ii:=by unfold DF.Dj;rw[am fun h=>w h.1]
  simp only[C,er w];rw[aD w,H.2.1,H.2.2]
 |ok q=>
  rw[Q]at hd;let ⟨P,L⟩:=q
  let ⟨j,h2,R,W⟩:=hd
  simp only;cases C:ex L fh with
  |none=>
   have D:=jy j.names fh C;have E:(DF.Du l ii).Dj=(DF.Du l ii).DA 133 (0,0):=by unfold DF.Dj DF.Ev;rw[D,aD ⟨j.CR,rfl⟩]
   have g:=dD j.CR (e:=133) (by decide) (0,0);have w:((DF.Du l ii).DA 133 (0,0)).CR≠0:=by rw[g.2.1];exact g.1
   simp only[E,er w];rw[aD w,g.2.1,g.2.2]
  |some x=>
   let ⟨i,D,J⟩:=jN j.names j.nd C
   have a1:=j.kd x (qi C);by_cases K:x.kind≠6
   .have E:(DF.Du l ii).Dj=(DF.Du l ii).DA 133 (0,0):=by
     unfold DF.Dj DF.Ev;refine aD ⟨j.CR,?_⟩;rw[D];show decide _=true;rw[J,decide_eq_true_eq];unfold gz;show ¬ (if x.kind=0 then 100 else x.kind)=6;split
     .decide
     .exact K
    have g:=dD j.CR (e:=133) (by decide) (0,0);have w:((DF.Du l ii).DA 133 (0,0)).CR≠0:=by rw[g.2.1];exact g.1
    simp only[E,er w];rw[aD w,g.2.1,g.2.2,aD K]
   .have U:x.kind=6:=by omega
    have E:(DF.Du l ii).Dj=DF.Du l ii:=by unfold DF.Dj DF.Ev;rw[D,am];rintro⟨-,h⟩;have h:decide (((DF.Du l ii).names.getD i hA).kind≠6)=true:=h;rw[J,decide_eq_true_eq]at h;apply h;unfold gz;show (if x.kind=0 then 100 else x.kind)=6;rw[am (by omega)];exact U
    simp only[E,am K,R];have Y:hq (DF.Du l ii) {P with threads:=[]++P.threads} L 0 0 0:=j;have V:∀b∈jq l,bB nm b 1=true/\St.cls b:=by
     intro b g;unfold jq at g;obtain⟨d,hd,rfl⟩:=HM.1 g;let ⟨N,a0⟩:=List.mem_filter.1 hd
     exact⟨(qy (F d N)).2.2.2 (by simpa using a0),Z d N⟩
    have A:=qv (jq l) (i:=0) V Y (by omega) z (by rw[W];omega);rw[mU];cases M:kW L 0 (jq l) with
    |error e=>
     rw[M]at A;have G:=A;rw[aD (by rw[G.2.1];exact G.1),G.2.1,G.2.2]
    |ok q=>
     rw[M]at A;let ⟨bs,n⟩:=q
     let ⟨mo,A⟩:=A
     rw[am (by rw[A.CR];decide),A.prog,D];have X:(DF.Eh 0 (jq l) (DF.Du l ii)).names.getD i hA=gz x:=by rw[A.names,<-j.names];exact J
     simp only[HS,X];rfl
theorem iN{e:Int}(g:e≠0)(p:Int×Int):(D.DA e p).CR≠0:=by
 unfold DF.DA;split
 .exact g
 .assumption
structure sO (D:DF):Prop where
 c:D.P.vars.length+D.P.CW.length+D.P.CX.length+D.P.threads.length+D.P.CT+D.P.conds<=D.names.length
 v:D.P.nv.length=D.P.vars.length/\D.P.na.length=D.P.CW.length/\D.P.nm.length=D.P.CT/\D.P.nc.length=D.P.conds/\D.P.nh.length=D.P.CX.length
 cells:0<=D.cells/\D.cells<=256
 body:∀t∈D.P.threads,t.body=[]
 zero:D.locals=0/\D.CY=0/\D.P.stmts=0
 names:D.names.length<=64
theorem sO.vi(h:sO D):Cm D:=by obtain⟨C,E,g,w,j,A⟩:=h;exact⟨A,by omega,g,w,j⟩
theorem hg(d:De)(n:Nat)(g:(D.Eb d n).CR=0)(A:D.P.vars.length+D.P.CW.length+D.P.CX.length+D.P.threads.length+D.P.CT+D.P.conds<=D.names.length+1)(C:D.P.nv.length=D.P.vars.length/\D.P.na.length=D.P.CW.length/\D.P.nm.length=D.P.CT/\D.P.nc.length=D.P.conds/\D.P.nh.length=D.P.CX.length)(j:0<=D.cells/\D.cells<=256)(E:∀t∈D.P.threads,t.body=[])(w:D.locals=0/\D.CY=0/\D.P.stmts=0):sO (D.Eb d n)/\(D.Eb d n).P=D.P:=by
 unfold DF.Eb at g ⊢;split at g
 .exact absurd g (iN (by decide) _)
 .rename_i F;rw[am F];exact⟨⟨by simpa using A,C,j,E,w,by show (D.names++[_]).length<=64;simp;omega⟩,z⟩
theorem wK(d:De)(h:sO D)(R:1<=d.kind)(U:d.kind<=6)(g:(D.dec d).CR=0):sO (D.dec d)/\(D.dec d).P.threads.length=D.P.threads.length+(if d.kind=6 then 1 else 0):=by
 obtain⟨Q,E,G,A,C,S⟩:=h;unfold DF.dec at g ⊢;by_cases N:(D.at d.name).isSome=true
 .rw[aD N]at g;exact absurd g (iN (by decide) _)
 rw[am N]at g ⊢;by_cases K:d.kind=1
 .rw[aD K]at g ⊢;split at g
  .exact absurd g (iN (by decide) _)
  .rename_i H;rw[am H];obtain⟨w,j⟩:=hg d _ g (by simp;omega) (by simpa using E) G A C;exact⟨w,by rw[j,am (by omega)];rfl⟩
 rw[am K]at g ⊢;by_cases M:d.kind=2
 .rw[aD M]at g ⊢;split at g
  .exact absurd g (iN (by decide) _)
  .rename_i H;rw[am H];obtain⟨w,j⟩:=hg d _ g (by simp;omega) (by simpa using E) (by show 0<=D.cells+d.num/\D.cells+d.num<=256;omega) A C;exact⟨w,by rw[j,am (by omega)];rfl⟩
 rw[am M]at g ⊢;by_cases k3:d.kind=3
 .rw[aD k3]at g ⊢;obtain⟨w,j⟩:=hg d _ g (by simp;omega) (by simpa using E) G A C;exact⟨w,by rw[j,am (by omega)];rfl⟩
 rw[am k3]at g ⊢;by_cases k4:d.kind=4
 .rw[aD k4]at g ⊢;obtain⟨w,j⟩:=hg d _ g (by simp;omega) (by simpa using E) G A C;exact⟨w,by rw[j,am (by omega)];rfl⟩
 rw[am k4]at g ⊢;by_cases k5:d.kind=5
 .rw[aD k5]at g ⊢;split at g
  .exact absurd g (iN (by decide) _)
  .rename_i H;rw[am H];obtain⟨w,j⟩:=hg d _ g (by simp;omega) (by simpa using E) G A C;exact⟨w,by rw[j,am (by omega)];rfl⟩
 rw[am k5]at g ⊢;have J:d.kind=6:=by omega
 rw[aD J]at g ⊢;obtain⟨w,j⟩:=hg d _ g (by simp;omega) E G (by
  intro t F;rcases GG.1 F with F|F
  .exact A t F
  .simp at F;rw[F]) C
 exact⟨w,by rw[j,aD J];simp⟩
theorem sd:sO ii:=⟨by decide,by decide,by decide,by simp[ii,fz],by decide,by decide⟩
theorem sO.iv(h:sO D):hz D:=⟨by rw[h.zero.1];decide,by rw[h.zero.2.1];decide,by have:=h.names;omega,fun _=>⟨by rw[h.zero.1];decide,by rw[h.zero.2.2];decide⟩⟩
mutual
theorem ym:∀ (s:St) (D:DF),(DF.st s D).1.P.threads=D.P.threads
 | .mk k l c s t x y body els id sl ot lo,D=>by
  rw[DF.st]
  split
  .exact congrArg Pg.threads (gb D (e:=134) (by decide) (l,c)).P
  .have h1:=jz body (((DF.ex (l,c) x (DF.ex (l,c) y D.inc).1).1.DR (l,c) k s t sl ot lo).1)
   have h2:=jz els ((DF.Dp body ((DF.ex (l,c) x (DF.ex (l,c) y D.inc).1).1.DR (l,c) k s t sl ot lo).1).1.back ((DF.ex (l,c) x (DF.ex (l,c) y D.inc).1).1.DR (l,c) k s t sl ot lo).1)
   rw[xB,(go (l,c) x _).P,(go (l,c) y _).P]at h1
   exact h2.trans h1
theorem jz:∀ (r:List St) (D:DF),(DF.Dp r D).1.P.threads=D.P.threads
 | [],D=>by rw[DF.Dp]
 |s::r,D=>by
  rw[DF.Dp]
  split
  .rfl
  .exact(jz r _).trans (ym s D)
end
theorem uG(l:List St)(D:DF):(DF.CV l D).1.P.threads=D.P.threads:=jz l D
def ei(ok:Nat->Prop)(w:Fk)(P:Pg)(ps:List Fr):Prop:=∃v0 v1 v4 v5 n0 n1 n2 n3 n4,ps=fU P v0 v1 v4 v5 n0 n1 n2 n3 n4 []/\pu ok w P v0 v1 v4 v5 n0 n1 n2 n3 n4
def lh(w:Fk)(R:Pg× (Int×Int)×Int)(e:GP)(w':Fk):Prop:=(∃ps,e= .returned (.tuple #[.agg ps.toArray,.agg #[.int .i64 R.2.1.1,.int .i64 R.2.1.2],.int .i64 R.2.2])/\ei (w.1.size<=·) w' R.1 ps)/\FM w.1.size w w'
def fm:List Fr:=[.slice none 0 0,.slice none 0 0,.int .i64 0,.int .i64 0,.slice none 0 0,.slice none 0 0,.int .i64 0,.int .i64 0,.slice none 0 0,.slice none 0 0,.slice none 0 0,.slice none 0 0,.slice none 0 0]
theorem hJ:∃i z,prog.info? 30=some i/\i.zero=some z/\z.cells=fm.toArray:=fH (by kernel_rfl)
theorem bN:(prog.info? 30).map (·.size)=some 13:=by kernel_rfl
theorem eI:∃d,prog.underlying 30=some d/\d.isRow=true:=by
 have h:(prog.underlying 30).map (·.isRow)=some true:=by kernel_rfl
 let ⟨d,j,g⟩:=Ga.1 h
 exact⟨d,j,g⟩
theorem hG:∃i z,prog.info? 32=some i/\i.zero=some z/\z.cells=[Gr .i64 0,I 0].toArray:=fH (by kernel_rfl)
theorem br:(prog.info? 32).map (·.size)=some 2:=by kernel_rfl
theorem gW:∃d,prog.underlying 32=some d/\d.isRow=true:=by
 have h:(prog.underlying 32).map (·.isRow)=some true:=by kernel_rfl
 let ⟨d,j,g⟩:=Ga.1 h
 exact⟨d,j,g⟩
theorem eQ(ok:Nat->Prop)(w:Fk):ei ok w fz fm:=⟨_,_,_,_,_,_,_,_,_,z,⟨Ro.nil _ _ _,Ro.nil _ _ _,Ro.nil _ _ _,Ro.nil _ _ _,Ro.nil _ _ _,Ro.nil _ _ _,Ro.nil _ _ _,Ro.nil _ _ _,Ro.nil _ _ _⟩⟩
theorem ei.keep{ok:Nat->Prop}{w':Fk}{P:Pg}(E:∀ (b o:Nat) (u:Fr),ok b->w.cell? (ad b o)=some u->w'.cell? (ad b o)=some u)(h:ei ok w P l2):ei ok w' P l2:=by
 let ⟨G,C,j,g,A,n1,n2,n3,n4,F,D⟩:=h
 exact⟨G,C,j,g,A,n1,n2,n3,n4,F,D.keep E⟩
theorem ei.CQ{ok ok':Nat->Prop}{P:Pg}(E:∀b,ok b->ok' b)(h:ei ok w P l2):ei ok' w P l2:=by
 let ⟨G,C,j,g,A,n1,n2,n3,n4,F,D⟩:=h
 exact⟨G,C,j,g,A,n1,n2,n3,n4,F,D.CQ E⟩
theorem ei.cells{ok:Nat->Prop}{P:Pg}(h:ei ok w P l2):l2.length=13/\∀v∈l2,v.oneCell'=true:=by obtain⟨E,D,A,j,C,n1,n2,n3,n4,rfl,h⟩:=h;refine⟨z,fun v g=>?_⟩;simp only[fU,FQ,FO,or_false]at g;rcases g with rfl|rfl|rfl|rfl|rfl|rfl|rfl|rfl|rfl|rfl|rfl|rfl|rfl;all_goals first|rfl|exact h.vars.one|exact h.CW.one|exact h.CX.one|exact h.threads.one|exact h.nv.one|exact h.na.one|exact h.nm.one|exact h.nc.one|exact h.nh.one
section
variable {w0 w W W':Fk} {p0 q0:Nat} {cs:List Fr} {ok:Nat→Prop} {D:DF}
theorem aG.prog(h:aG ok w D cs)(m:Nat):∃j H,cs.set 6 (I m)=j++H/\ei ok w {D.P with main:=m} j:=by obtain⟨J,G,E,A,F,n1,n2,n3,n4,C,rfl,g,K⟩:=h;exact⟨_,[C,I D.cells,I D.locals,I D.CY,I D.pos.1,I D.pos.2,I D.CR],z,J,G,E,A,F,n1,n2,n3,n4,z,⟨g.vars,g.CW,g.CX,g.threads,g.nv,g.na,g.nm,g.nc,g.nh⟩⟩
theorem aG.c6(h:aG ok w D cs):cs[6]? =some (I D.P.main):=by obtain⟨H,F,A,g,C,n1,n2,n3,n4,j,rfl,G,E⟩:=h;rfl
structure Fq (w0:Fk) (p0 q0:Nat) (w:Fk) (cs:List Fr) (W:Fk):Prop where
 o:FM w0.1.size w0 w
 h:w0.1.size<=p0/\p0<w.1.size/\w0.1.size<=q0/\q0<w.1.size/\p0≠q0
 b:FM w.1.size w W
 p:ak W p0 30 fm
 q:ak W q0 32 [.int .i64 0,.int .i64 0]
 f:ak W w.1.size 109 cs
def ew(w W:Fk)(c:Nat):Prop:=w.1.size+1<=c/\c<W.1.size
theorem Fq.lt(h:Fq w0 p0 q0 w cs W):w.1.size+1<=W.1.size:=by have:=h.f.lt;omega
theorem Fq.DV(h:Fq w0 p0 q0 w cs W)(g:FM (w.1.size+1) W W'):Fq w0 p0 q0 w cs W':=⟨h.o,h.h,h.b.trans (g.mono (by omega)),h.p.of (g.block _ (by have:=h.h;omega)),h.q.of (g.block _ (by have:=h.h;omega)),h.f.of (g.block _ (by omega))⟩
theorem Fq.below(h:Fq w0 p0 q0 w cs W)(g:bL W W'):Fq w0 p0 q0 w cs W':=h.DV (g.mono h.lt)
theorem Fq.Dc(h:Fq w0 p0 q0 w cs W)(j:ak W' w.1.size 109 l2)(g:Ch w.1.size W W'):Fq w0 p0 q0 w l2 W':=⟨h.o,h.h,g.below (FL _) h.b,g.CV (by have:=h.h;omega) h.p,g.CV (by have:=h.h;omega) h.q,j⟩
theorem Fq.EU(h:Fq w0 p0 q0 w cs W):bL w0 W:=h.o.trans (h.b.mono h.o.size)
theorem lK(h:aG (ew w W) W D cs)(g:bL W W'):aG (ew w W') W' D cs:=(h.below g).CQ fun _ j=>⟨j.1,FJ j.2 g.size⟩
theorem hT(h:aG (ew w W) W D cs)(j:Ch b W W')(A:b<w.1.size+1):aG (ew w W') W' D cs:=(j.df (fun e=>by have:=e.1;omega) h).CQ fun c g=>⟨g.1,by rw[j.size];exact g.2⟩
end
theorem ga{T g:GA}{d j:TypeDesc}(V:prog.underlying T=some d)(E:d.isRow=true)(H:(prog.info? T).map (·.size)=some n)(C:prog.underlying g=some j)(U:j.isRow=true)(X:(prog.info? g).map (·.size)=some n2){w:Func}{R:GP->Fk->Prop}{b2:Nat}{s s2 u:Tmp}{cs:List Fr}(h:ak W b T cs)(Y:cs.length=n)(M:ak W b2 g l2)(D:l2.length=n2)(K:w.results= #[.cell s T,.cell s2 g,.tmp u])
  (Q:A.tmps.getD s Gm=Pt b)(G:A.tmps.getD s2 Gm=Pt b2)(Z:A.tmps.getD u Gm=v)(hd:A.defers=[])(hR:R (.returned (.tuple #[.agg cs.toArray,.agg l2.toArray,v])) W):Gb prog w R .ret A W:=by
 have J:A.tmps[s]?.getD Gm=Pt b:=by rw[<-Q];simp
 have S:A.tmps[s2]?.getD Gm=Pt b2:=by rw[<-G];simp
 have F:A.tmps[u]?.getD Gm=v:=by rw[<-Z];simp
 have a0:=run_loadVar_mid (P:=prog) W b 0 T cs d h.whole V E (by rw[Y];exact H);have N:=run_loadVar_mid (P:=prog) W b2 0 g l2 j M.whole C U (by rw[D];exact X);refine bodyPost_ret (v:= .tuple #[.agg cs.toArray,.agg l2.toArray,v]) ?_ hd hR;simp[results,K,J,S,F,asAddr,a0,N]
theorem cl(a b:Int):[Gr .i64 a,I b].length=2/\∀v∈ [Gr .i64 a,I b],v.oneCell'=true:=⟨z,fun v g=>by simp only[FQ,FO,or_false]at g;rcases g with rfl|rfl<;>rfl⟩
def rg(F:DF)(at9:Option Nat):Pg× (Int×Int)×Int:=if F.CR≠0 then (fz,F.pos,F.CR) else ({F.P with main:=(F.names.getD (at9.getD 0) hA).slot},(0,0),0)
theorem mc{F:DF}{cs:List Fr}{N:Option Nat}(A:Hid (Fq w0 j n0 w cs W))(HL:Hid (cs.length=20/\∀v∈cs,v.oneCell'=true))(e8:Hid (cs[17]? =some (I F.pos.1)/\cs[18]? =some (I F.pos.2)/\cs[19]? =some (I F.CR)))(d1:Hid (F.CR=0->aG (ew w W) W F cs))(E:F.CR=0->∃i,N=some i/\i<F.names.length)(hU:l2.length=121:=by rfl):
  FR prog (Jp 8 (f15.body.getD .skip)) (Gb prog f15 (lh w0 (rg F N))) ⟨(v0::v1::Pt j::Pt n0::v2::Pt w.1.size::v3::v4::I (qN N)::l2).toArray,[]⟩ W:=by
 revert l2;apply aN;iterate 121 intro _
 change FR _ _ _ _ _;let ⟨du,e2,e3⟩:=cd
 let ⟨d8,a2,a3⟩:=eI
 let ⟨e5,d0,b8⟩:=gW
 have d3:prog.follows .mixedOrders=true:=by kernel_rfl
 obtain⟨R,C⟩:=eX (rg F N);rw[C];unfold rg at C;obtain⟨fl,a1⟩:=eX F.CR;have c19:=(A.f.cell 19).trans e8.2.2;rw[a1]at c19 C E d1;have e7:=O a1;clear a1;conv in (Jp _ _)=>whnf
 by_cases h0:fl=0;rotate_left
 .have c17:=e8.1;have c18:=e8.2.1;obtain⟨⟨px,py⟩,e9⟩:∃x,F.pos=x:=⟨_,z⟩;rw[e9]at c17 c18;rw[aD h0,e9]at C;have HR:=O C;have Y:=O (EQ c17 (EQ c18 ((A.f.cell 19).symm.trans c19)));clear C e9 c17 c18 E;go_wp2;obtain⟨X,hV⟩:=eX W.drew;have G:Hid (Fq w0 j n0 w cs X):=O (by rw[<-hV];exact A.below (FB _ W).drew);clear A c19;apply al [] (fun W=>ak W w.1.size 109 cs) d3;rw[hV];clear hV;have K:Hid (ak X w.1.size 109 cs):=O G.f;refine nk 0 ?_;refine fK _ 2 (fun W1 V=>EQ ((V.cell 17).trans Y.o.1) ((V.cell 18).trans Y.o.2.1)) ?_;refine fa 3 ?_;refine nm ?_;refine fK _ 4 (fun W1 V=> (V.cell 19).trans Y.o.2.2) ?_;refine nm ?_;refine oD 5 fun a5 H=>?_
  refine an bN (.tmp 2) (.tmp 114) z j fm _ z z G.p z ⟨z,by decide⟩ ?_;intro W7 k7 c7;have M:=O (EQ k7 c7);clear k7 c7;have hh:=G.h;have b4:=O (M.2.CV (by omega) G.f);apply H _ _ (fun _=>b4);clear H a5;refine oD 6 fun a5 H=>?_;refine an br (.tmp 3) (.tmp 116) z n0 [I px,I py] _ z z (M.2.CV (by omega) G.q) z (cl px py) ?_;intro W8 k8 c8;have U:=O (EQ k8 c8);clear k8 c8;have c9:=O (U.2.CV (by omega) b4);apply H _ _ (fun _=>c9);clear H a5;refine fa 7 ?_;refine nm ?_;refine dn ?_;go_wp2;refine ga a2 a3 bN d0 b8 br (U.2.CV (by omega) M.1) z U.1 z z z z z z ?_;rw[<-HR.o];exact⟨⟨fm,z,eQ _ _⟩,U.2.below (by omega) (M.2.below (by omega) G.EU)⟩
 .subst h0;obtain⟨i,rfl,hi⟩:=E z;have Z:=O (d1.o z);rw[am (by decide)]at C;obtain⟨va,d9,b5,d7⟩:=Z.o.Ff;have c13:=(A.o.f.cell 13).trans b5;have c6:=(A.o.f.cell 6).trans Z.o.c6;have g6:=A.o.f.frozen 6;obtain⟨x,hx⟩:∃x,F.names[i]? =some x:=⟨_,FC hi⟩;have a9:F.names.getD i hA=x:=by rw[FD,hx];rfl
  obtain⟨a',e1,d6,-,E⟩:=d7;cases d6;obtain⟨g,d2,xs,rfl,-,a6,a8⟩:=E i x hx;have b7:xs=x.cells:=a8;rw[b7]at a6;have x2:W.cell? ⟨g,d2+i*3+2,none⟩=some (I x.slot):=a6 2 _ z;have e0:(0:Int)<=(i:Int):=by omega
  have e6:(i:Int)< (F.names.length:Int):=by omega
  have b6:({F.P with main:=x.slot},((0:Int),(0:Int)),(0:Int))=R:=by rw[<-C];simp only[HS,a9]
  have HR:=O b6;simp only[qN];clear C b6 E a6 a8 b7 a9 b5 hx;obtain⟨J,a7,b9,a0⟩:=Z.o.prog x.slot;have d5:=O b9;have d4:=O a0;have a4:=O a0.cells;clear b9 a0 g6;go_wp2_with (first
   | ((with_reducible refine cY (.store 3 (.tmp 126) _) ?_);refine az (by kernel_rfl) z (.tmp 126) (.tmp 124) z w.1.size 6 109 (I x.slot) cs z z z z A.o.f (by rw[HL.o.1];decide) ?_;intro W2 k2 c2;have K2:Hid (ak W2 w.1.size 109 (J++a7)):=O (by rw[<-d5.o];exact k2);have C2:=O c2;have D:=O (A.o.Dc k2 c2);clear k2 c2 c13 c6 x2 c19)
   | ((with_reducible refine gU _ (.load 30 _) ?_);refine Gn z 30 (.tmp 127) z w.1.size 0 z J d8 (K2.o.range (pre:=[]) (mid:=J) (post:=a7) z) a2 a3 (by rw[a4.o.1];exact bN) ?_)
   | ((with_reducible refine cY (.store 30 _ _) ?_);refine af bN z (.tmp 2) (.tmp 128) z j J _ z z D.o.p z a4.o ?_;intro W3 k3 c3;have S:=O (EQ k3 c3);clear k3 c3)
   | ((with_reducible refine cY (.store 32 _ _) ?_);refine af br z (.tmp 3) (.tmp 129) z n0 [I 0,I 0] _ z z (S.o.2.CV (by have:=D.o.h;omega) D.o.q) z (cl 0 0) ?_;intro W4 k4 c4;have Q:=O (EQ k4 c4);clear k4 c4)
   |fail)
  refine ga a2 a3 bN d0 b8 br (Q.o.2.CV (by have:=D.o.h;omega) S.o.1) a4.o.1 Q.o.1 z z z z z z ?_;rw[<-HR.o];have hh:=D.o.h;have ho:=D.o.o.size;refine⟨⟨J,z,?_⟩,Q.2.below (by omega) (S.2.below (by omega) D.o.EU)⟩;refine ei.CQ (ok:=ew w W) (fun c hc=>FU (by omega) hc.1) (d4.keep fun b o u hb hu=>?_);have e4:=hb.1;rw[Q.o.2.cell (by omega),S.o.2.cell (by omega),C2.o.cell (by omega)];exact hu
end Go.Proofs.YtgppcdfgdaggjaaGreatDoor
