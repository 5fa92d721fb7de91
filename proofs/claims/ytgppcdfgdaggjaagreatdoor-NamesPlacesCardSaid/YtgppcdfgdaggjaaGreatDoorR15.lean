/- Texts laid together. No condition but what each law says. -/
import Derived.Test.YtgppcdfgdaggjaaGreatDoorR49
import Derived.Test.YtgppcdfgdaggjaaGreatDoorR14
set_option maxRecDepth 100000
set_option maxHeartbeats 4000000
namespace Go.Proofs.YtgppcdfgdaggjaaGreatDoor
open Go.RowKit Go.Maps
variable {V W w:World}{l2:List Value}{a a0:Option Addr}{T0:List St}{b g i j k n:Nat}{S:Src}
def St.setKind:St->Int->St
 | .mk _ l c s t x y b e i sl ot lo,k=> .mk k l c s t x y b e i sl ot lo
def St.setName:St->ByteArray->St
 | .mk k l c _ t x y b e i sl ot lo,s=> .mk k l c s t x y b e i sl ot lo
def St.setWith:St->ByteArray->St
 | .mk k l c s _ x y b e i sl ot lo,t=> .mk k l c s t x y b e i sl ot lo
def St.setExpr:St->Ex->St
 | .mk k l c s t _ y b e i sl ot lo,x=> .mk k l c s t x y b e i sl ot lo
def St.setIndex:St->Ex->St
 | .mk k l c s t x _ b e i sl ot lo,y=> .mk k l c s t x y b e i sl ot lo
def St.setBody:St->List St->St
 | .mk k l c s t x y _ e i sl ot lo,b=> .mk k l c s t x y b e i sl ot lo
def St.setEls:St->List St->St
 | .mk k l c s t x y b _ i sl ot lo,e=> .mk k l c s t x y b e i sl ot lo
theorem ExL.cells{ok:Nat->Prop}{cs:List Value}:∀ {e:Ex},ExL ok w cs e->cs.length=7/\∀v∈cs,v.oneCell'=true
 | .mk k n s sl lo o args,h=>by
  unfold ExL at h
  obtain⟨a,cap,rfl,-⟩:=h
  refine⟨z,fun v g=>?_⟩
  simp only[List.mem_cons,List.not_mem_nil,or_false]at g
  rcases g with rfl|rfl|rfl|rfl|rfl|rfl|rfl<;>rfl
theorem StL.cells{ok:Nat->Prop}{cs:List Value}:∀ {s:St},StL ok w cs s->cs.length=25/\∀v∈cs,v.oneCell'=true
 | .mk k l c s t x y b e i sl ot lo,h=>by
  unfold StL at h
  obtain⟨K,H,a,J,cap,G,rfl,E,A,-⟩:=h
  obtain⟨F,j⟩:=E.cells
  obtain⟨C,D⟩:=A.cells
  refine⟨by simp[F,C],fun v g=>?_⟩
  simp only[List.mem_cons,List.mem_append,List.not_mem_nil,or_false]at g
  rcases g with rfl|rfl|rfl|rfl|rfl|g|g|rfl|rfl|rfl|rfl|rfl|rfl
  case inr.inr.inr.inr.inr.inl=>exact j v g
  case inr.inr.inr.inr.inr.inr.inl=>exact D v g
  all_goals rfl
section
variable {ok:Nat→Prop} {w:World} {cs:List Value}
theorem StL.kind(q:Int):∀ {s:St},StL ok w cs s->StL ok w (cs.set 0 (I q)) (s.setKind q)
 | .mk k l c s t x y b e i sl ot lo,h=>by
  unfold StL at h
  obtain⟨G,C,a,E,cap,j,rfl,H,A,J,g,D,F⟩:=h
  unfold St.setKind StL
  exact⟨G,C,a,E,cap,j,z,H,A,J,g,D,F⟩
theorem StL.name(q:ByteArray):∀ {s:St},StL ok w cs s->StL ok w (cs.set 3 (.string q)) (s.setName q)
 | .mk k l c s t x y b e i sl ot lo,h=>by
  unfold StL at h
  obtain⟨G,C,a,E,cap,j,rfl,H,A,J,g,D,F⟩:=h
  unfold St.setName StL
  exact⟨G,C,a,E,cap,j,z,H,A,J,g,D,F⟩
theorem StL.wth(q:ByteArray):∀ {s:St},StL ok w cs s->StL ok w (cs.set 4 (.string q)) (s.setWith q)
 | .mk k l c s t x y b e i sl ot lo,h=>by
  unfold StL at h
  obtain⟨G,C,a,E,cap,j,rfl,H,A,J,g,D,F⟩:=h
  unfold St.setWith StL
  exact⟨G,C,a,E,cap,j,z,H,A,J,g,D,F⟩
theorem StL.expr{z:Ex}(g:ExL ok w l2 z):∀ {s:St},StL ok w cs s->StL ok w (putAt cs 5 l2) (s.setExpr z)
 | .mk k l c s t x y b e i sl ot lo,h=>by
  unfold StL at h
  obtain⟨H,D,a,F,cap,A,rfl,J,C,K,j,E,G⟩:=h
  unfold St.setExpr StL
  refine⟨l2,D,a,F,cap,A,?_,g,C,K,j,E,G⟩
  exact putAt_mid l2 H [I k,I l,I c,.string s,.string t] _ (by rw[g.cells.1,J.cells.1])
theorem StL.index{z:Ex}(g:ExL ok w l2 z):∀ {s:St},StL ok w cs s->StL ok w (putAt cs 12 l2) (s.setIndex z)
 | .mk k l c s t x y b e i sl ot lo,h=>by
  unfold StL at h
  obtain⟨C,G,a,A,cap,j,rfl,D,F,K,E,H,J⟩:=h
  unfold St.setIndex StL
  refine⟨C,l2,a,A,cap,j,?_,D,g,K,E,H,J⟩
  have:=putAt_mid l2 G (I k::I l::I c:: .string s:: .string t::C) [.slice a b.length cap,.slice A e.length j,I i,I sl,I ot,.bool lo] (by rw[g.cells.1,F.cells.1])
  simpa [D.cells.1]using this
theorem StL.body(E:Roomy T0.length j)(C:StsL ok w a0 0 T0):∀ {s:St},StL ok w cs s->StL ok w (cs.set 19 (.slice a0 T0.length j)) (s.setBody T0)
 | .mk k l c s t x y b e i sl ot lo,h=>by
  unfold StL at h
  obtain⟨K,F,a,H,cap,D,rfl,A,g,N,M,G,J⟩:=h
  unfold St.setBody StL
  refine⟨K,F,a0,H,j,D,?_,A,g,E,C,G,J⟩
  simp[A.cells.1,g.cells.1]
theorem StL.els(E:Roomy T0.length j)(C:StsL ok w a0 0 T0):∀ {s:St},StL ok w cs s->StL ok w (cs.set 20 (.slice a0 T0.length j)) (s.setEls T0)
 | .mk k l c s t x y b e i sl ot lo,h=>by
  unfold StL at h
  obtain⟨G,F,a,M,cap,J,rfl,A,g,H,D,K,N⟩:=h
  unfold St.setEls StL
  refine⟨G,F,a,a0,cap,j,?_,A,g,H,D,E,C⟩
  simp[A.cells.1,g.cells.1]
end
def Sb(B:Nat)(w:World)(sb:Nat)(st:St):Prop:=∃cs,Blk w sb 60 cs/\StL (fun c=>B<=c/\c≠sb) w cs st
section
variable {B sb:Nat} {w w':World} {st:St}
theorem Sb.lt(h:Sb B w sb st):sb<w.1.size:=by obtain⟨cs,g,-⟩:=h;exact g.lt
theorem Sb.there(h:Sb B w sb st){o:Nat}(g:o+n<=25):w.there sb o n:=by obtain⟨cs,j,A⟩:=h;exact j.there (by rw[A.cells.1];exact g)
theorem Sb.cell(h:Sb B w sb st)(C:j<25):∃v,w.cell? ⟨sb,j,none⟩=some v:=by obtain⟨cs,g,A⟩:=h;have:=A.cells.1;exact⟨_,(g.cell j).trans (List.getElem?_eq_getElem (by omega))⟩
theorem Sb.frozen(h:Sb B w sb st)(j:Nat):w.frozen? ⟨sb,j,none⟩=false:=by obtain⟨cs,g,-⟩:=h;exact g.frozen j
theorem Sb.keep(h:Sb B w sb st)(j:∀c,c<w.1.size->B<=c->w'.1[c]? =w.1[c]?)(E:B<=sb):Sb B w' sb st:=by have C:=h.lt;obtain⟨cs,F,A⟩:=h;refine⟨cs,F.of (j _ C E),StL.keep (fun c o v D g=>?_) A⟩;rw[<-g];simp[World.cellF,j c (World.block_lt_of_cellF w g) D.1]
theorem Sb.kp(h:Sb B w sb st)(g:Kp w w' b b)(D:b<B)(j:B<=sb):Sb B w' sb st:=
 h.keep (fun c A C=>g.block c A (by omega) (by omega)) j
theorem Sb.drewN(h:Sb B w sb st)(n:Nat):Sb B (w.drewN n) sb st:=by obtain⟨cs,g,A⟩:=h;exact⟨cs,g.drewN n,StL.keep (w:=w) (w':=w.drewN n) (fun c o v C j=>j) A⟩
theorem Sb.write(g:List Value)(j:St)(D:∀c,c≠sb->w'.1[c]? =w.1[c]?)(E:Blk w' sb 60 g)(C:StL (fun c=>B<=c/\c≠sb) w g j):Sb B w' sb j:=
 ⟨g,E,StL.keep (fun c o v F A=>by rw[<-A];simp[World.cellF,D c F.2]) C⟩
theorem Sb.kind(h:Sb B w sb st)(q:Int):Sb B (w.setCell ⟨sb,0,none⟩ (I q)) sb (st.setKind q):=by obtain⟨cs,j,A⟩:=h;exact Sb.write _ _ (fun c g=>Below.heap_setCell w ⟨sb,0,none⟩ _ c g) (j.set1 0 _) (A.kind q)
theorem Sb.name(h:Sb B w sb st)(q:ByteArray):Sb B (w.setCell ⟨sb,3,none⟩ (.string q)) sb (st.setName q):=by obtain⟨cs,j,A⟩:=h;exact Sb.write _ _ (fun c g=>Below.heap_setCell w ⟨sb,3,none⟩ _ c g) (j.set1 3 _) (A.name q)
theorem Sb.wth(h:Sb B w sb st)(q:ByteArray):Sb B (w.setCell ⟨sb,4,none⟩ (.string q)) sb (st.setWith q):=by obtain⟨cs,j,A⟩:=h;exact Sb.write _ _ (fun c g=>Below.heap_setCell w ⟨sb,4,none⟩ _ c g) (j.set1 4 _) (A.wth q)
theorem Sb.expr(h:Sb B w sb st){z:Ex}(g:ExL (fun c=>B<=c/\c≠sb) w l2 z):Sb B (w.setCells sb 5 l2) sb (st.setExpr z):=by obtain⟨cs,C,j⟩:=h;exact Sb.write _ _ (fun c A=>heap_setCells A _ _ w) (Blk.setCells l2 5 C) (j.expr g)
theorem Sb.index(h:Sb B w sb st){z:Ex}(g:ExL (fun c=>B<=c/\c≠sb) w l2 z):Sb B (w.setCells sb 12 l2) sb (st.setIndex z):=by obtain⟨cs,C,j⟩:=h;exact Sb.write _ _ (fun c A=>heap_setCells A _ _ w) (Blk.setCells l2 12 C) (j.index g)
theorem Sb.body(h:Sb B w sb st)(C:Roomy T0.length j)(g:StsL (fun c=>B<=c/\c≠sb) w a0 0 T0):Sb B (w.setCell ⟨sb,19,none⟩ (.slice a0 T0.length j)) sb (st.setBody T0):=by obtain⟨cs,E,A⟩:=h;exact Sb.write _ _ (fun c D=>Below.heap_setCell w ⟨sb,19,none⟩ _ c D) (E.set1 19 _) (A.body C g)
theorem Sb.els(h:Sb B w sb st)(C:Roomy T0.length j)(g:StsL (fun c=>B<=c/\c≠sb) w a0 0 T0):Sb B (w.setCell ⟨sb,20,none⟩ (.slice a0 T0.length j)) sb (st.setEls T0):=by obtain⟨cs,E,A⟩:=h;exact Sb.write _ _ (fun c D=>Below.heap_setCell w ⟨sb,20,none⟩ _ c D) (E.set1 20 _) (A.els C g)
end
mutual
theorem ExL.bound {ok:Nat->Prop} {w:World}:∀ {cs:List Value} {e:Ex},ExL ok w cs e->ExL (fun c=>ok c/\c<w.1.size) w cs e
 |cs,.mk k n s sl lo o args,h=>by
  unfold ExL at h ⊢
  obtain⟨a,cap,h1,h2,h3⟩:=h
  exact⟨a,cap,h1,h2,ExsL.bound h3⟩
theorem ExsL.bound {ok:Nat->Prop} {w:World}:∀ {a:Option Addr} {i:Nat} {l:List Ex},ExsL ok w a i l->ExsL (fun c=>ok c/\c<w.1.size) w a i l
 |_,_,[],_=>by unfold ExsL;trivial
 |a,i,e::r,h=>by
  unfold ExsL at h ⊢
  obtain⟨⟨b,off,cs,h1,h2,h3,h4⟩,h5⟩:=h
  have hb:b<w.1.size:=by
   have h6:=h4
   obtain⟨k,n,s,sl,lo,o,args⟩:=e
   unfold ExL at h6
   obtain⟨_,_,rfl,_⟩:=h6
   exact World.block_lt_of_cellF w (h3 0 _ rfl)
  exact⟨⟨b,off,cs,h1,⟨h2,hb⟩,h3,ExL.bound h4⟩,ExsL.bound h5⟩
end
structure Bt (w0 w:World) (b z y:Nat) (S:Src) (l:Ex) (j:Nat):Prop where
 ex:∃v0 v1 v2 v3 v4 v5 v6,Xc w y v0 v1 v2 v3 v4 v5 v6/\ExL (fun c=>w0.1.size<=c/\c≠y/\c≠z) w [v0,v1,v2,v3,v4,v5,v6] l
 zz:Xc w z (.int .i64 0) (.int .i64 0) (.string ⟨#[]⟩) (.int .i64 0) (.bool false) (.int .i64 0) (.slice none 0 0)
 rd:Rw w b S j
 kp:Kp w0 w b b
theorem ex_put2{B y z:Nat}{x:Ex}{cs:List Value}(G:ExL (fun c=>B<=c/\c≠y/\c≠z) W cs x)(w j D C A E F:Value):ExL (B<=·) (set7 W z w j D C A E F) cs x:=by refine ExL.weak (fun c g=> (g.1:B<=c)) (ExL.keep (fun c o v g H=>?_) G);rw[<-H];simp[World.cellF,heap_set7 (W:=W) g.2.2 w j D C A E F]
def atOf(w:World)(b:Nat):Nat:=match w.cell? ⟨b,1,none⟩ with
 |some (.int _ k)=>k.toNat
 |_=>0
theorem atOf_rw(h:Rw w b S k):atOf w b=k:=by unfold atOf;rw[h.c1];simp
theorem expr_step{f:Nat}(b5:b≠0)(hU:CU b S f)(hE:∀g,g<=f->CE b S g):CE b S (f+1):=by
 intro w n k R hn h hO C;rw[pE]at C;have h0:=h.alloc (.cells #[I 0,I 0,.string ⟨#[]⟩,I 0,.bool false,I 0,.slice none 0 0] 58);have c8:Xc (w.alloc (.cells #[.int .i64 0,.int .i64 0,.string ⟨#[]⟩,.int .i64 0,.bool false,.int .i64 0,.slice none 0 0] 58)) w.1.size (.int .i64 0) (.int .i64 0) (.string ⟨#[]⟩) (.int .i64 0) (.bool false) (.int .i64 0) (.slice none 0 0):=World.alloc_heap_new _ _;have a6:Kp w (w.alloc (.cells #[I 0,I 0,.string ⟨#[]⟩,I 0,.bool false,I 0,.slice none 0 0] 58)) b b:=kp_same ((Below.refl _ w).alloc rl _);have j6:=h.lt;have HH:=O h;go_in;go_wp2_with fail;generalize w.alloc (.cells #[I 0,I 0,.string ⟨#[]⟩,I 0,.bool false,I 0,.slice none 0 0] 58)=W0 at *
 rcases hx:pU S.T f k with _| (j|⟨x,j⟩)
 .rw[hx]at C;cases C
 .rw[hx]at C;cases C;refine(hU W0 k _ h0 (hO.kp a6 b5) hx).mono ?_;rintro e U ⟨a7,rfl⟩;exact⟨rfl,a6.trans a7,rfl⟩
 .rw[hx,andT_ok]at C;refine(hU W0 k _ h0 (hO.kp a6 b5) hx).mono ?_;rintro e U ⟨a7,⟨cs,rfl,hX⟩,h1⟩;obtain⟨xk,xn,xs,xl,xo,xp,xa⟩:=x;have a8:=hX;unfold ExL at hX;obtain⟨a,cap,rfl,i8,g5⟩:=hX;have f9:=c8.lt;have i2:=a7.size;have h4:=a6.size;have hB:Bt w (U.alloc (.cells #[I xk,I xn,.string xs,I xl,.bool xo,I xp,.slice a xa.length cap] 58)) b w.1.size U.1.size S (.mk xk xn xs xl xo xp xa) j:=by
   refine⟨⟨_,_,_,_,_,_,_,World.alloc_heap_new _ _,?_⟩,(c8.of (a7.block _ f9 (by omega) (by omega))).alloc _,h1.alloc _,(a6.trans a7).alloc _⟩;refine ExL.weak (fun c E=>?_) (ExL.keep (fun c o v E V=>?_) a8.bound)
   .obtain⟨e6,i5⟩:W0.1.size<=c/\c<U.1.size:=E;exact⟨by omega,by omega,by omega⟩
   .have h2:=(World.grownBy_alloc U (.cells #[I xk,I xn,.string xs,I xl,.bool xo,I xp,.slice a xa.length cap] 58) none).block c (World.block_lt_of_cellF U V) (by simp);rw[<-V];simp[World.cellF,h2]
  go_wp2_with fail;generalize i1:U.alloc (.cells #[I xk,I xn,.string xs,I xl,.bool xo,I xp,.slice a xa.length cap] 58)=W2 at *;clear i1;have i0:U.1.size≠w.1.size:=by omega
  have g8:w.1.size<=U.1.size:=by omega
  generalize hy:U.1.size=y at *;clear a8 g5 h1 a7 a6 c8 h0 hy f9 i2 h4 hx;have HB:=O hB;have HR:=O C;clear hB C;go_loopw [6] (fun i wr=>∃ (g m j:Nat) (l:Ex),i=I m/\m<=6/\g<=f/\Hid (pL S.T g n m l j=some R)/\Hid (Bt w wr b w.1.size y S l j)) (fun _ wr=>S.T.length-atOf wr b)
  .exact⟨f,6,j,_,rfl,rl,rl,HR,HB⟩
  .obtain⟨g,m,j,l,rfl,j7,j1,HR,HB⟩:=hrel;obtain⟨g,rfl⟩:∃g',g=g'+1:=by
    cases g with
    |zero=>exact absurd HR.o (by simp[pL])
    |succ g=>exact⟨g,rfl⟩
   have C:=HR.o;rw[pL]at C;obtain⟨⟨v0,v1,v2,v3,v4,v5,v6,F,hL⟩,A,Q,a1⟩:=HB.o;obtain⟨G,ln,K,J,lo,lp,H⟩:=l;obtain⟨N,M,g7⟩:∃N M,[v0,v1,v2,v3,v4,v5,v6]=[I G,I ln,.string K,I J,.bool lo,I lp,.slice N H.length M]:=by have h:=hL;unfold ExL at h;obtain⟨N,M,h,-⟩:=h;exact⟨N,M,h⟩
   cases g7;have ho:=oper_any Q (hO.kp a1 b5);obtain⟨o,d4⟩:∃o,opAt S.T j=o:=⟨_,rfl⟩;obtain⟨r,hr⟩:∃r,rankOf o=r:=⟨_,rfl⟩;rw[d4,hr]at C ho;have d6:=O (And.intro d4 hr);clear d4 hr;have f7:∀w2,bL wr w2->Xc w2 y (I G) (I ln) (.string K) (I J) (.bool lo) (I lp) (.slice N H.length M)/\Xc w2 w.1.size (I 0) (I 0) (.string ⟨#[]⟩) (I 0) (.bool false) (I 0) (.slice none 0 0)/\Rw w2 b S j/\Kp w w2 b b/\ExL (fun c=>w.1.size<=c/\c≠y/\c≠w.1.size) w2 [I G,I ln,.string K,I J,.bool lo,I lp,.slice N H.length M] (.mk G ln K J lo lp H):=fun w2 hb=>by refine⟨F.of (hb.block _ F.lt),A.of (hb.block _ A.lt),Q.below hb,a1.trans (kp_same hb),ExL.keep (fun c o v E V=>?_) hL⟩;have h2:=hb.block c (World.block_lt_of_cellF wr V);rw[<-V];simp[World.cellF,h2]
   have HK:=O f7;clear F hL A Q a1 f7;go_wp2_with fail;refine ho.mono ?_;rintro e w2 ⟨rfl,e0⟩;have HQ:=O (HK.o w2 e0);by_cases E:o=0∨r<n∨m<r
   .rw[if_pos E]at C;cases C;obtain⟨F,A,-,-,-⟩:=HQ.o;have y0:=F.c0;have y1:=F.c1;have y2:=F.c2;have y3:=F.c3;have y4:=F.c4;have y5:=F.c5;have y6:=F.c6;have i6:=A.c0;have t1:=A.c1;have t2:=A.c2;have t3:=A.c3;have t4:=A.c4;have t5:=A.c5;have t6:=A.c6;have f0:=A.frozen 0;have f1:=A.frozen 1;have f2:=A.frozen 2;have f3:=A.frozen 3;have f4:=A.frozen 4;have f5:=A.frozen 5;have f6:=A.frozen 6;clear F A ho e0 hU hE;go_wp2_with fail;all_goals first
     | (exfalso;omega)
     | (obtain⟨F,A,Q,a1,hL⟩:=HQ.o;have b7:=kp_set7 a1 (z:=w.1.size) rl;refine end_ex (A.set _ _ _ _ _ _ _) rfl rfl rfl ⟨b7 _ _ _ _ _ _ _,⟨_,rfl,ex_put2 hL _ _ _ _ _ _ _⟩,?_⟩;exact HH.o.fin Q (b7 _ _ _ _ _ _ _) (heap_set7 (by omega) _ _ _ _ _ _ _))
     |skip
   .rw[if_neg E]at C;have d8:¬ (o=0):=fun e=>E (.inl e);have j9:((o:Int)==0)=false:=by simpa using d8
    have j8:decide (r<n)=false:=by simp;omega
    have i9:decide (m<r)=false:=by simp;omega
    obtain⟨F,A,Q,a1,hL⟩:=HQ.o;have e1:j<S.T.length:=opAt_lt S.T (by rw[d6.o.1];exact d8);have i7:=Q.mx;have c1:=Q.c1;have f1:=Q.frozen 1;have b8:y≠b:=by omega
    have b6:=Q.step e1;have g3:Xc (w2.setCell ⟨b,1,none⟩ (.int .i64 ((j:Int)+1))) y _ _ _ _ _ _ _:=F.of (Below.heap_setCell _ ⟨b,1,none⟩ _ y b8);have g4:=a1.setA 1 (I ((j:Int)+1));clear F A Q a1 hL;go_wp2_with fail;have a0:Xc (w2.setCell ⟨b,1,none⟩ (.int .i64 ((j:Int)+1))).drew y (.int .i64 G) (.int .i64 ln) (.string K) (.int .i64 J) (.bool lo) (.int .i64 lp) (.slice N H.length M):=g3;refine wp_region_x [8] (fun W=>Xc W y (I G) (I ln) (.string K) (I J) (.bool lo) (I lp) (.slice N H.length M)) rfl ?_;refine tg _ 0 a0 (fun _ h=>h.al) ?_;refine tg _ 1 a0 (fun _ h=>h.al) ?_;refine tg _ 2 a0 (fun _ h=>h.al) ?_;refine tg _ 3 a0 (fun _ h=>h.al) ?_;refine tg _ 4 a0 (fun _ h=>h.al) ?_
    refine tn 5 fun b4 hK=>?_;go_simp;have g6:IntKind.i64.wrap ((r:Int)+1)=((r+1:Nat):Int):=by have:=rankOf_le o;rw[d6.o.2]at this;rw[IntKind.wrap_i64];omega
    rw[g6];have e5:r+1<=7:=by have:=rankOf_le o;rw[d6.o.2]at this;omega
    have c9:Rw (w2.setCell ⟨b,1,none⟩ (I ((j:Int)+1))).drew b S (j+1):=⟨b6.hd,b6.wds,b6.ne,b6.le,b6.mx⟩;have a9:=g4.drew;rcases hx:pE S.T g (r+1) (j+1) with _| (j2|⟨x,j2⟩)
    .rw[hx]at C;cases C
    .rw[hx]at C;cases C;refine(hE g (by omega) _ (r+1) (j+1) _ e5 c9 (hO.kp a9 b5) hx).mono ?_;rintro e X ⟨a4,rfl⟩;exact⟨rfl,a9.trans a4,rfl⟩
    .rw[hx,andT_ok]at C;refine(hE g (by omega) _ (r+1) (j+1) _ e5 c9 (hO.kp a9 b5) hx).mono ?_;rintro e X ⟨a4,⟨cs,rfl,hX⟩,h5⟩;obtain⟨Z,qn,Y,ql,qo,qp,qa⟩:=x;have a8:=hX;unfold ExL at hX;obtain⟨a3,a5,rfl,j3,h7⟩:=hX;have d3:=a0.of (a4.block y a0.lt b8 b8);refine hK _ _ (fun _=>d3) ?_;clear hK b4;refine tn 6 fun b4 hK=>?_;go_simp;have h3:=a4.size;have d1:(w2.setCell ⟨b,1,none⟩ (I ((j:Int)+1))).drew.1.size=w2.1.size:=by simp[World.drew,World.setCell]
     have j5:y<w2.1.size:=HQ.o.1.lt;have i3:w.1.size<w2.1.size:=HQ.o.2.1.lt;rw[d1]at h3;have d9:∀c,c≠b->(w2.setCell ⟨b,1,none⟩ (I ((j:Int)+1))).drew.1[c]? =w2.1[c]? :=fun c E=>Below.heap_setCell w2 ⟨b,1,none⟩ _ c E;have d5:∀c,c<w2.1.size->c≠b->X.1[c]? =w2.1[c]? :=fun c E d2=> (a4.block c (by rw[d1];exact E) d2 d2).trans (d9 c d2);have hA:ExL (fun c=>w.1.size<=c/\c≠y/\c≠w.1.size) X [I G,I ln,.string K,I J,.bool lo,I lp,.slice N H.length M] (.mk G ln K J lo lp H):=
      ExL.keep (fun c o v E V=>by rw[<-V];simp[World.cellF,d5 c (World.block_lt_of_cellF w2 V) (by have:=E.1;omega)]) HQ.o.2.2.2.2
     have g2:ExL (fun c=>w.1.size<=c/\c≠y/\c≠w.1.size) X [I Z,I qn,.string Y,I ql,.bool qo,I qp,.slice a3 qa.length a5] (.mk Z qn Y ql qo qp qa):=
      ExL.weak (fun c E=>by have e6:(w2.setCell ⟨b,1,none⟩ (.int .i64 ((j:Int)+1))).drew.1.size<=c:=E;rw[d1]at e6;exact⟨by omega,by omega,by omega⟩) a8
     have hT:=two_args hA g2 (show w.1.size<=X.1.size/\X.1.size≠y/\X.1.size≠w.1.size from⟨by omega,by omega,by omega⟩) o;have e4:Xc X w.1.size (.int .i64 0) (.int .i64 0) (.string ⟨#[]⟩) (.int .i64 0) (.bool false) (.int .i64 0) (.slice none 0 0):=HQ.o.2.1.of (d5 _ i3 (by omega));have f8:=a9.trans a4;have e2:=pE_adv S.T (show j+1<=S.T.length from e1) hx;have D:=d3.alloc (.cells #[I G,I ln,.string K,I J,.bool lo,I lp,.slice N H.length M,I Z,I qn,.string Y,I ql,.bool qo,I qp,.slice a3 qa.length a5] 58);have e9:=e4.alloc (.cells #[I G,I ln,.string K,I J,.bool lo,I lp,.slice N H.length M,I Z,I qn,.string Y,I ql,.bool qo,I qp,.slice a3 qa.length a5] 58)
     have h6:=h5.alloc (.cells #[I G,I ln,.string K,I J,.bool lo,I lp,.slice N H.length M,I Z,I qn,.string Y,I ql,.bool qo,I qp,.slice a3 qa.length a5] 58);have e3:=f8.alloc (.cells #[I G,I ln,.string K,I J,.bool lo,I lp,.slice N H.length M,I Z,I qn,.string Y,I ql,.bool qo,I qp,.slice a3 qa.length a5] 58);generalize j0:X.alloc (.cells #[I G,I ln,.string K,I J,.bool lo,I lp,.slice N H.length M,I Z,I qn,.string Y,I ql,.bool qo,I qp,.slice a3 qa.length a5] 58)=W6 at *;generalize X.1.size=q5 at *;have hB:Bt w (set7 W6 y (I 6) (I 0) (.string noB) (I 0) (.bool false) (I o) (.slice (some ⟨q5,0,none⟩) 2 2)) b w.1.size y S (exBin o (.mk G ln K J lo lp H) (.mk Z qn Y ql qo qp qa)) j2:=by have b7:=kp_set7 e3 (z:=y) g8 (I 6) (I 0) (.string noB) (I 0) (.bool false) (I o) (.slice (some ⟨q5,0,none⟩) 2 2);refine⟨⟨_,_,_,_,_,_,_,D.set _ _ _ _ _ _ _,ExL.keep (fun c o v E V=>?_) hT⟩,e9.of (heap_set7 (Ne.symm i0) _ _ _ _ _ _ _),HH.o.fin h6 b7 (heap_set7 (Ne.symm b8) _ _ _ _ _ _ _),b7⟩;rw[<-V];simp only[World.cellF];rw[heap_set7 E.2.1]
     have e7:=O hB;have d7:=O C;have HJ:=O e2;have b9:=atOf_rw hB.rd;have e8:atOf wr b=j:=atOf_rw HB.o.rd;clear hB C hT hA g2 a8 h7 e4 e9 h6 e3 f8 d5 d9 a4 h5 hx e2 c9 a9 d3 a0;refine hK _ _ (fun _=>D) ?_;clear hK b4;refine t0 7 D ?_;refine tn 8 fun b4 hK=>?_;have h8:=D.c0;have h9:=D.c1;have s2:=D.c2;have s3:=D.c3;have s4:=D.c4;have s5:=D.c5;have s6:=D.c6;have f0:=D.frozen 0;have f1:=D.frozen 1;have f2:=D.frozen 2;have f3:=D.frozen 3;have f4:=D.frozen 4;have f5:=D.frozen 5;have f6:=D.frozen 6;go_simp;refine hK _ _ (fun h=>absurd h (by decide)) ?_;clear hK b4 h8 h9 s2 s3 s4 s5 s6 f0 f1 f2 f3 f4 f5 f6 D
     have d0:Hid (Bt w (set7 W6 y (.int .i64 6) (.int .i64 0) (.string ⟨#[]⟩) (.int .i64 0) (.bool false) (.int .i64 (o:Int)) (.slice (some ⟨q5,0,none⟩) 2 2)) b w.1.size y S (exBin o (.mk G ln K J lo lp H) (.mk Z qn Y ql qo qp qa)) j2):=e7;simp only[set7]at d0;clear e7;change atOf (set7 W6 y (I 6) (I 0) (.string ⟨#[]⟩) (I 0) (.bool false) (I o) (.slice (some ⟨q5,0,none⟩) 2 2)) b=j2 at b9;simp only[set7]at b9;generalize ((((((W6.setCell ⟨y,0,none⟩ (I 6)).setCell ⟨y,1,none⟩ (I 0)).setCell ⟨y,2,none⟩ (.string ⟨#[]⟩)).setCell ⟨y,3,none⟩ (I 0)).setCell ⟨y,4,none⟩ (.bool false)).setCell ⟨y,5,none⟩ (I o)).setCell ⟨y,6,none⟩ (.slice (some ⟨q5,0,none⟩) 2 2)=W8 at *;refine dn ?_
     have i4:nextM r<=6:=by unfold nextM;split<;>omega
     by_cases g1:r=3
     .subst g1;rename_i ha;go_simp;refine ha _ _ ?_;clear ha;go_wp2_with fail;exact⟨⟨g,2,j2,_,rfl,by decide,by omega,d7,d0⟩,by rw[b9,e8];have:=HJ.o;omega⟩
     .have j4:¬ ((r:Int)=3):=by omega
      have g9:nextM r=r:=by unfold nextM;rw[if_neg g1]
      rw[g9]at d7;rename_i ha;go_simp;refine ha _ _ ?_;clear ha;go_wp2_with fail;exact⟨⟨g,r,j2,_,rfl,by omega,by omega,d7,d0⟩,by rw[b9,e8];have:=HJ.o;omega⟩
theorem expr_all(C:b≠0):∀f,CU b S f/\CP b S f/\(∀g,g<=f->CE b S g):=by
 intro f;induction f with
 |zero=>
  refine⟨fun w k R h D j=>?_,fun w k R h D j=>?_,fun g G=>?_⟩
  .rw[pU_zero]at j;cases j
  .rw[pP_zero]at j;cases j
  .obtain rfl:g=0:=by omega
   intro w n k R J h D j;rw[pE_zero]at j;cases j
 |succ f F=>
  obtain⟨E,H,A⟩:=F;refine⟨unary_step C E H,prim_step C (A f rl),fun g G=>?_⟩;by_cases h:g<=f
  .exact A g h
  .obtain rfl:g=f+1:=by omega
   exact expr_step C E A
theorem expr_any(A:b≠0)(h:Rw w b S k)(g:Ops w){R:Except Nat (Ex×Nat)}(j:pX S.T k=some R):
  Calls Tryz.prog 67 #[Pt b,I 1] w (WP w b S R (exOk w)):=(expr_all A (4*S.T.length+4)).2.2 _ rl w 1 k R (by decide) h g j
def SP(w:World)(b sb B:Nat)(S:Src)(R:Except Nat (St×Nat))(e:Ending)(w':World):Prop:=
 Kp w w' b sb/\match R with
  | .ok (st,j)=>e= .returned (.tuple #[])/\Sb B w' sb st/\Rw w' b S j
  | .error j=>e= .panicked [flawM S j]
def Away(S:Src)(sb:Nat):Prop:=∀g o,S.a=some ⟨g,o,none⟩->0<S.T.length->g≠sb
theorem Rw.away{sb:Nat}(h:Rw w b S k)(E:w.1.size<=sb):Away S sb:=fun g o A C=>by obtain⟨G,F,j,D,-⟩:=h.wds 0 C;rw[A]at j;cases j;have H:g<w.1.size:=World.block_lt_of_cell? w _ D;omega
def PartOk(b:Nat)(S:Src)(f:FuncId)(g:St->Nat->PR St):Prop:=∀ (w:World) (B sb k:Nat) (st:St) (R:Except Nat (St×Nat)),Rw w b S k->Ops w->Away S sb->b<B->B<=sb->Sb B w sb st->g st k=some R->
 Calls Tryz.prog f #[.pointer (some ⟨b,0,none⟩),.pointer (some ⟨sb,0,none⟩)] w (SP w b sb B S R)
def gName(T:List Wd)(st:St)(k:Nat):PR St:=andT (pName T k) fun s j=>some (.ok (st.setName s,j))
def gWith(T:List Wd)(st:St)(k:Nat):PR St:=andT (pName T k) fun s j=>some (.ok (st.setWith s,j))
def gExpr(T:List Wd)(st:St)(k:Nat):PR St:=andT (pX T k) fun x j=>some (.ok (st.setExpr x,j))
def gIs(T:List Wd)(st:St)(k:Nat):PR St:=andT (want T sEq k) fun _ j=>some (.ok (st,j))
theorem info64:(Tryz.prog.info? 60).map (·.size)=some 25:=by kernel_rfl
theorem Rw.put(h:Rw w b S k)(C:Rw W b S j){sb:Nat}(Q:Kp w V b sb)(N:V.1[b]? =W.1[b]?)(H:Away S sb):Rw V b S j:=by
 refine⟨N.trans C.hd,?_,C.ne,C.le,C.mx⟩;intro i G;obtain⟨g,E,D,F,U,J,K,M⟩:=h.wds i G;have R:=World.block_lt_of_cell? w _ F;have A:∀o,V.cell? ⟨g,o,none⟩=w.cell? ⟨g,o,none⟩:=fun o=>by simp[World.cell?,Q.block g R (h.ne g E D) (H g E D (by omega))]
 exact⟨g,E,D,(A _).trans F,(A _).trans U,(A _).trans J,(A _).trans K,(A _).trans M⟩
theorem Rw.setO{sb:Nat}(h:Rw w b S k)(g:b≠sb)(j:Away S sb)(o:Nat)(u:Value):Rw (w.setCell ⟨sb,o,none⟩ u) b S k:=
 h.put h ((Kp.refl w b sb).setB o u) (Below.heap_setCell w ⟨sb,o,none⟩ u b g) j
theorem Rw.setOs{sb:Nat}(h:Rw w b S k)(g:b≠sb)(j:Away S sb)(o:Nat)(vs:List Value):Rw (w.setCells sb o vs) b S k:=
 h.put h (Kp.setCellsB vs o (Kp.refl w b sb)) (heap_setCells g vs o w) j
theorem ExL.part{B sb:Nat}{cs:List Value}{x:Ex}(h:ExL (W.1.size<=·) w cs x)(j:B<=sb)(A:sb<W.1.size):ExL (fun c=>B<=c/\c≠sb) w cs x:=
 ExL.weak (fun c g=>by have:=g;exact⟨by omega,by omega⟩) h
theorem part_name:PartOk b S 63 (gName S.T):=by
 intro w B sb k st R h N F K M E g;unfold gName at g;go_in;go_wp2_with fail;rcases hn:pName S.T k with _| (j|⟨nm,j⟩)
 .rw[hn]at g;cases g
 .rw[hn]at g;cases g;apply (name_rd h hn).mono;rintro e H ⟨A,rfl⟩;exact⟨z,A.widen,z⟩
 .rw[hn]at g;cases g;apply (name_rd h hn).mono;rintro e H ⟨A,rfl,D⟩;have C:=E.kp A K M;obtain⟨v,c3⟩:=C.cell (j:=3) (by decide);have Q:=C.frozen 3;have G:b≠sb:=by omega
  have J:=O (And.intro C (And.intro D A));go_wp2;go_end0;obtain⟨C,D,A⟩:=J;exact⟨A.widen.setB _ _,z,C.name _,D.setO G F _ _⟩
theorem part_with:PartOk b S 65 (gWith S.T):=by
 intro w B sb k st R h N F K M E g;unfold gWith at g;go_in;go_wp2_with fail;rcases hn:pName S.T k with _| (j|⟨nm,j⟩)
 .rw[hn]at g;cases g
 .rw[hn]at g;cases g;apply (name_rd h hn).mono;rintro e H ⟨A,rfl⟩;exact⟨z,A.widen,z⟩
 .rw[hn]at g;cases g;apply (name_rd h hn).mono;rintro e H ⟨A,rfl,D⟩;have C:=E.kp A K M;obtain⟨v,c3⟩:=C.cell (j:=4) (by decide);have Q:=C.frozen 4;have G:b≠sb:=by omega
  have J:=O (And.intro C (And.intro D A));go_wp2;go_end0;obtain⟨C,D,A⟩:=J;exact⟨A.widen.setB _ _,z,C.wth _,D.setO G F _ _⟩
theorem part_expr(H:b≠0):PartOk b S 66 (gExpr S.T):=by
 intro w B sb k st R h G K U J F A;unfold gExpr at A;go_in;go_wp2_with fail;rcases hn:pX S.T k with _| (j|⟨x,j⟩)
 .rw[hn]at A;cases A
 .rw[hn]at A;cases A;apply (expr_any H h G hn).mono;rintro e N ⟨C,rfl⟩;exact⟨z,C.widen,z⟩
 .rw[hn]at A;cases A;apply (expr_any H h G hn).mono;rintro e N ⟨C,⟨cs,rfl,g⟩,E⟩;have D:=F.kp C U J;have V:=st_run (D.there (o:=5) (n:=7) (by decide)) g.cells.1 g.cells.2;have W:=g.cells.1;have M:b≠sb:=by omega
  have Q:=O (And.intro D (And.intro E (And.intro C (g.part J F.lt))));go_wp2;go_end0;obtain⟨D,E,C,g⟩:=Q;exact⟨Kp.setCellsB _ _ C.widen,z,D.expr g,E.setOs M K _ _⟩
theorem part_is:PartOk b S 68 (gIs S.T):=by
 intro w B sb k st R h K J E G C g;unfold gIs at g;go_in;go_wp2_with fail;rcases hn:want S.T sEq k with _| (j|⟨u,j⟩)
 .rw[hn]at g;cases g
 .rw[hn]at g;cases g;apply (want_any h sEq hn).mono;rintro e D ⟨A,rfl⟩;exact⟨z,A.widen,z⟩
 .rw[hn]at g;cases g;apply (want_any h sEq hn).mono;rintro e D ⟨A,rfl,H⟩;have F:=C.kp A E G;go_wp2;go_end0;exact⟨A.widen,z,F,H⟩
theorem Ops.kp2{w':World}{sb:Nat}(h:Ops w)(C:Kp w w' b sb)(F:b≠0)(A:sb≠0):Ops w':=fun j E=>by have g:=h j E;have D:=C.block 0 (World.block_lt_of_cell? w _ g) (Ne.symm F) (Ne.symm A);rw[<-g];simp[World.cell?,D]
theorem ex_keep{B sb:Nat}{cs:List Value}{x:Ex}(h:ExL (fun c=>B<=c/\c≠sb) W cs x)(o:Nat)(u:Value):ExL (fun c=>B<=c/\c≠sb) (W.setCell ⟨sb,o,none⟩ u) cs x:=
 ExL.keep (fun d p v hd g=>by rw[<-g];exact World.cellF_setCell_far W ⟨sb,o,none⟩ ⟨d,p,none⟩ u (Ne.symm hd.2)) h
def gEnd(T:List Wd)(st:St)(k:Nat):PR St:=andT (want T sSemi k) fun _ j=>some (.ok (st,j))
def gLast(T:List Wd)(st:St)(k:Nat):PR St:=andT (want T sEq k) fun _ m=>andT (pX T m) fun x j=>gEnd T (st.setExpr x) j
def gAssign(T:List Wd)(st:St)(k:Nat):PR St:=andT (pName T k) fun s j=>
 if isT T j sBrO=true then andT (pX T (j+1)) fun y m=>andT (want T sBrS m) fun _ n=>gLast T ((((st.setKind 2).setName s).setKind 3).setIndex y) n
 else gLast T ((st.setKind 2).setName s) j
theorem assign_eq(T:List Wd)(p:Int×Int)(k:Nat):gAssign T (mkSt 0 p noB noB zEx zEx [] []) k=pAssign T p k:=by unfold gAssign pAssign;congr 1
theorem assign_part(G:b≠0):PartOk b S 145 (gAssign S.T):=by
 intro w B sb k st R h hO hA Q C hs g;unfold gAssign gLast gEnd at g;have a5:b≠sb:=by omega
 have a6:sb≠0:=by omega
 go_in;go_wp2_with fail;rcases hx1:pName S.T k with _| (j1|⟨x1,j1⟩)
 .rw[hx1]at g;cases g
 .rw[hx1]at g;cases g;apply (name_rd h hx1).mono;rintro e W1 ⟨c8,rfl⟩;exact⟨z,(Kp.refl w b sb).trans c8.widen,z⟩
 rw[hx1,andT_ok]at g;apply (name_rd h hx1).mono;rintro e W1 ⟨c8,rfl,h1⟩;have a7:=hs.kp c8 Q C;have d2:=(Kp.refl w b sb).trans (c8.widen (b:=sb));obtain⟨v0,c0⟩:=a7.cell (j:=0) (by decide);have f0:=a7.frozen 0;obtain⟨v3,c3⟩:=a7.cell (j:=3) (by decide);have f3:=a7.frozen 3;have W:=a7;have U:=h1;have V:=d2;replace W:=W.kind 2;replace U:=U.setO a5 hA 0 (I 2);replace V:=V.setB 0 (I 2);replace W:=W.name x1;replace U:=U.setO a5 hA 3 (.string x1);replace V:=V.setB 3 (.string x1);have K:=O (And.intro W (And.intro U V));go_wp2_with fail;obtain⟨W,U,V⟩:=K;generalize ((W1.setCell ⟨sb,0,none⟩ (I 2)).setCell ⟨sb,3,none⟩ (.string x1))=W2 at *;apply (accept_any U sBrO).mono;rintro e W3 ⟨c9,rfl,X⟩
 have b8:=W.kp c9 Q C;have a0:=V.trans (c9.widen (b:=sb));obtain⟨m,hm⟩:=eX (isT S.T j1 sBrO);rw[hm]at g X;rw[hm];cases m
 .rw[if_neg Bool.false_ne_true]at g X;go_wp2_with fail;rcases hx4:want S.T sEq j1 with _| (j4|⟨x4,j4⟩)
  .rw[hx4]at g;cases g
  .rw[hx4]at g;cases g;apply (want_any X sEq hx4).mono;rintro e W4 ⟨J,rfl⟩;exact⟨z,a0.trans J.widen,z⟩
  rw[hx4,andT_ok]at g;apply (want_any X sEq hx4).mono;rintro e W4 ⟨J,rfl,h4⟩;have a2:=b8.kp J Q C;have Y:=a0.trans (J.widen (b:=sb));go_wp2_with fail;rcases hx5:pX S.T j4 with _| (j5|⟨x5,j5⟩)
  .rw[hx5]at g;cases g
  .rw[hx5]at g;cases g;apply (expr_any G h4 (hO.kp2 Y G a6) hx5).mono;rintro e W5 ⟨b6,rfl⟩;exact⟨z,Y.trans b6.widen,z⟩
  rw[hx5,andT_ok]at g;apply (expr_any G h4 (hO.kp2 Y G a6) hx5).mono;rintro e W5 ⟨b6,⟨cs,rfl,hX⟩,E⟩;have A:=a2.kp b6 Q C;have D:=Y.trans (b6.widen (b:=sb));have a3:=hX.part C a2.lt;have N:=A;have F:=E;have H:=D;have d8:=st_run (N.there (o:=5) (n:=7) (by decide)) a3.cells.1 a3.cells.2;have e1:=a3.cells.1;replace N:=N.expr a3;replace F:=F.setOs a5 hA 5 cs;replace H:=Kp.setCellsB cs 5 H;have K:=O (And.intro N (And.intro F H));go_wp2_with fail;obtain⟨N,F,H⟩:=K;generalize (W5.setCells sb 5 cs)=W6 at *;rcases hx7:want S.T sSemi j5 with _| (j7|⟨x7,j7⟩)
  .rw[hx7]at g;cases g
  .rw[hx7]at g;cases g;apply (want_any F sSemi hx7).mono;rintro e W7 ⟨M,rfl⟩;exact⟨z,H.trans M.widen,z⟩
  rw[hx7,andT_ok]at g;apply (want_any F sSemi hx7).mono;rintro e W7 ⟨M,rfl,h7⟩;have a9:=N.kp M Q C;have a4:=H.trans (M.widen (b:=sb));cases g;go_wp2;go_end0;exact⟨a4,z,a9,h7⟩
 .rw[if_pos rfl]at g X;go_wp2_with fail;rcases hx4:pX S.T (j1+1) with _| (j4|⟨x4,j4⟩)
  .rw[hx4]at g;cases g
  .rw[hx4]at g;cases g;apply (expr_any G X (hO.kp2 a0 G a6) hx4).mono;rintro e W4 ⟨J,rfl⟩;exact⟨z,a0.trans J.widen,z⟩
  rw[hx4,andT_ok]at g;apply (expr_any G X (hO.kp2 a0 G a6) hx4).mono;rintro e W4 ⟨J,⟨cs,rfl,hX⟩,h4⟩;have a2:=b8.kp J Q C;have Y:=a0.trans (J.widen (b:=sb));have b7:=hX.part C b8.lt;obtain⟨v0,c0⟩:=a2.cell (j:=0) (by decide);have f0:=a2.frozen 0;have A:=a2;have E:=h4;have D:=Y;replace A:=A.kind 3;replace E:=E.setO a5 hA 0 (I 3);replace D:=D.setB 0 (I 3);have d5:=st_run (A.there (o:=12) (n:=7) (by decide)) b7.cells.1 b7.cells.2;have d6:=b7.cells.1;have a3:=ex_keep b7 0 (I 3);replace A:=A.index a3;replace E:=E.setOs a5 hA 12 cs;replace D:=Kp.setCellsB cs 12 D;have K:=O (And.intro A (And.intro E D));go_wp2_with fail;obtain⟨A,E,D⟩:=K
  generalize ((W4.setCell ⟨sb,0,none⟩ (I 3)).setCells sb 12 cs)=W5 at *;rcases hx6:want S.T sBrS j4 with _| (j6|⟨x6,j6⟩)
  .rw[hx6]at g;cases g
  .rw[hx6]at g;cases g;apply (want_any E sBrS hx6).mono;rintro e W6 ⟨b5,rfl⟩;exact⟨z,D.trans b5.widen,z⟩
  rw[hx6,andT_ok]at g;apply (want_any E sBrS hx6).mono;rintro e W6 ⟨b5,rfl,F⟩;have N:=A.kp b5 Q C;have H:=D.trans (b5.widen (b:=sb));go_wp2_with fail;rcases hx7:want S.T sEq j6 with _| (j7|⟨x7,j7⟩)
  .rw[hx7]at g;cases g
  .rw[hx7]at g;cases g;apply (want_any F sEq hx7).mono;rintro e W7 ⟨M,rfl⟩;exact⟨z,H.trans M.widen,z⟩
  rw[hx7,andT_ok]at g;apply (want_any F sEq hx7).mono;rintro e W7 ⟨M,rfl,h7⟩;have a9:=N.kp M Q C;have a4:=H.trans (M.widen (b:=sb));go_wp2_with fail;rcases hx8:pX S.T j7 with _| (j8|⟨x8,j8⟩)
  .rw[hx8]at g;cases g
  .rw[hx8]at g;cases g;apply (expr_any G h7 (hO.kp2 a4 G a6) hx8).mono;rintro e W8 ⟨b9,rfl⟩;exact⟨z,a4.trans b9.widen,z⟩
  rw[hx8,andT_ok]at g;apply (expr_any G h7 (hO.kp2 a4 G a6) hx8).mono;rintro e W8 ⟨b9,⟨cs,rfl,hX⟩,h8⟩;have d0:=a9.kp b9 Q C;have d1:=a4.trans (b9.widen (b:=sb));have a8:=hX.part C a9.lt;have a1:=d0;have h9:=h8;have Z:=d1;have d9:=st_run (a1.there (o:=5) (n:=7) (by decide)) a8.cells.1 a8.cells.2;have d7:=a8.cells.1;replace a1:=a1.expr a8;replace h9:=h9.setOs a5 hA 5 cs;replace Z:=Kp.setCellsB cs 5 Z;have K:=O (And.intro a1 (And.intro h9 Z));go_wp2_with fail;obtain⟨a1,h9,Z⟩:=K;generalize (W8.setCells sb 5 cs)=W9 at *;rcases hx10:want S.T sSemi j8 with _| (e3|⟨e4,e3⟩)
  .rw[hx10]at g;cases g
  .rw[hx10]at g;cases g;apply (want_any h9 sSemi hx10).mono;rintro e e0 ⟨b4,rfl⟩;exact⟨z,Z.trans b4.widen,z⟩
  rw[hx10,andT_ok]at g;apply (want_any h9 sSemi hx10).mono;rintro e e0 ⟨b4,rfl,e2⟩;have d4:=a1.kp b4 Q C;have d3:=Z.trans (b4.widen (b:=sb));cases g;go_wp2;go_end0;exact⟨d3,z,d4,e2⟩
abbrev Ents:=List (ByteArray×Value×Nat)
def entOf(p:ByteArray×Value×Nat):MapEntry:=⟨.string p.1,p.2.1,p.2.2⟩
def kfind(l:Ents)(s:ByteArray):Option (ByteArray×Value×Nat):=l.find? fun p=>decide (p.1=s)
theorem find_now(s:ByteArray):∀ (l:Ents) (i:Nat),∃j,Instr.findNow .string (.string s) (l.map entOf) i=some ((kfind l s).map fun p=> (j,p.2.1))
 | [],i=>⟨0,z⟩
 |p::l,i=>by
  obtain⟨j,C⟩:=find_now s l (i+1)
  obtain⟨r,g,A⟩:=MapKept.sameNow_of_keys (d:= .string) (a:= .string s) (b:= .string p.1) (by simp[MapKept.IsKey]) (by simp[MapKept.IsKey])
  by_cases h:p.1=s
  .refine⟨i,?_⟩
   have w:=A.2 (by rw[h])
   subst w
   rw[h]at g
   simp[kfind,Instr.findNow,g,entOf,h]
  .refine⟨j,?_⟩
   have w:r=false:=by
    cases r
    .rfl
    .exact absurd (Value.string.inj (A.1 z)).symm h
   subst w
   simp only[List.map_cons,Instr.findNow,entOf,g]
   simpa [kfind,h]using C
theorem look_fn{l:Ents}(h:w.1[g]? =some (.map (l.map entOf).toArray n))(s:ByteArray):
  (Instr.lookup 86 (.map (some g)) (.string s) false).run Tryz.prog w= .ok (((kfind l s).map fun p=>p.2.1).getD .nilFunc) w:=by
 obtain⟨j,G⟩:=find_now s l 0;have E:Tryz.prog.underlying 86=some (.map 9 154):=by kernel_rfl
 have A:Tryz.prog.underlying 9=some .string:=by kernel_rfl
 have F:(zeroValue 154).run Tryz.prog w= .ok .nilFunc w:=by kernel_rfl
 have D:MapKept.IsKey .string (.string s):=by simp[MapKept.IsKey]
 have C:Instr.findNow .string (.string s) (l.map entOf).toArray.toList 0=some ((kfind l s).map fun p=> (j,p.2.1)):=by simpa using G
 rcases hf:kfind l s with _|p
 .rw[hf]at C;simp[Instr.lookup,run_underlying E,MapKept.run_getObj_map h,MapKept.run_checkKey A D,MapKept.run_findKey A C,F,Result.andThen]
 .rw[hf]at C;simp[Instr.lookup,run_underlying E,MapKept.run_getObj_map h,MapKept.run_checkKey A D,MapKept.run_findKey A C,Result.andThen]
theorem put_fn{l:Ents}(h:w.1[g]? =some (.map (l.map entOf).toArray n))(s:ByteArray)(v:Value)(D:kfind l s=none):
  (Instr.mapUpdate 86 (.map (some g)) (.string s) v).run Tryz.prog w= .ok () {w with heap:=w.1.setIfInBounds g (.map ((l++[(s,v,n)]).map entOf).toArray (n+1))}:=by
 obtain⟨j,E⟩:=find_now s l 0;have F:Tryz.prog.underlying 86=some (.map 9 154):=by kernel_rfl
 have A:Tryz.prog.underlying 9=some .string:=by kernel_rfl
 have C:MapKept.IsKey .string (.string s):=by simp[MapKept.IsKey]
 have G:Instr.findNow .string (.string s) (l.map entOf).toArray.toList 0=some none:=by simpa [D]using E
 simp[Instr.mapUpdate,run_underlying F,MapKept.run_getObj_map h,MapKept.run_checkKey A C,MapKept.run_findKey A G,MapKept.run_setObj_map _ h,Result.andThen,entOf]
def Plain(w:World)(b:Nat)(fv:Value)(kind:Nat)(Ps:List FuncId):Prop:=∃ (g1 g2:Nat) (a:Option Addr) (cap:Nat),
 fv= .func (.func 110) #[] #[.pointer (some ⟨g1,0,none⟩),.pointer (some ⟨g2,0,none⟩)]/\g1<b/\w.cell? ⟨g1,0,none⟩=some (.int .i64 (kind:Int))/\g2<b/\w.cell? ⟨g2,0,none⟩=some (.slice a Ps.length cap)/\
 ∀i,i<Ps.length->∃g3 off,a=some ⟨g3,off,none⟩/\g3<b/\w.cell? ⟨g3,off+i,none⟩=some (.func (.func (Ps.getD i 0)) #[] #[])
def partsOf(k:Nat):List FuncId:=if k=1 then [63,68,66] else if k=8∨k=12 then [63,65] else if k=11 then [63,66] else if k=14 then [] else if k=15 then [66] else [63]
def Reads(w:World)(b:Nat)(k:Nat)(v:Option Value):Prop:=
 if k=0 then v=none else if k=4 then v=some (.func (.func 71) #[] #[]) else if k=5 then v=some (.func (.func 74) #[] #[]) else ∃fv,v=some fv/\Plain w b fv k (partsOf k)
structure Kds (w:World) (b:Nat) (S:Src):Prop where
 mp:∃ (g:Nat) (l:Ents) (n:Nat),S.kv= .map (some g)/\g<b/\w.1[g]? =some (.map (l.map entOf).toArray n)/\∀s,Reads w b (stOf s) ((kfind l s).map fun p=>p.2.1)
theorem Plain.keep{w':World}{fv:Value}{kind:Nat}{Ps:List FuncId}(h:Plain w b fv kind Ps)(K:∀c,c<w.1.size->c<b->w'.1[c]? =w.1[c]?):Plain w' b fv kind Ps:=by
 obtain⟨S,E,a,cap,V,A,Q,D,M,R⟩:=h;have g:∀c o v,c<b->w.cell? ⟨c,o,none⟩=some v->w'.cell? ⟨c,o,none⟩=some v:=fun c o v J j=>by rw[<-j];simp[World.cell?,K c (World.block_lt_of_cell? w _ j) J]
 refine⟨S,E,a,cap,V,A,g _ _ _ A Q,D,g _ _ _ D M,fun i F=>?_⟩;obtain⟨G,N,H,C,U⟩:=R i F;exact⟨G,N,H,C,g _ _ _ C U⟩
theorem Kds.keep{w':World}(h:Kds w b S)(D:∀c,c<w.1.size->c<b->w'.1[c]? =w.1[c]?):Kds w' b S:=by
 obtain⟨g,l,n,C,A,E,J⟩:=h.mp;refine⟨g,l,n,C,A,(D g (Array.getElem?_eq_some_iff.1 E).1 A).trans E,fun s=>?_⟩;have j:=J s;unfold Reads at j ⊢;split
 .rw[if_pos (by assumption)]at j;exact j
 rename_i G;rw[if_neg G]at j;split
 .rw[if_pos (by assumption)]at j;exact j
 rename_i C;rw[if_neg C]at j;split
 .rw[if_pos (by assumption)]at j;exact j
 rename_i A;rw[if_neg A]at j;obtain⟨fv,H,F⟩:=j;exact⟨fv,H,F.keep D⟩
theorem Kds.kp{w':World}{sb:Nat}(h:Kds w b S)(g:Kp w w' b sb)(A:b<=sb):Kds w' b S:=h.keep fun c j C=>g.block c j (by omega) (by omega)
def blkOk(w:World)(l:List St)(e:Ending)(w':World):Prop:=∃ (a:Option Addr) (cap:Nat),e= .returned (.slice a l.length cap)/\Roomy l.length cap/\StsL (w.1.size<=·) w' a 0 l
def stOk(w:World)(s:St)(e:Ending)(w':World):Prop:=∃cs:List Value,e= .returned (.agg cs.toArray)/\StL (w.1.size<=·) w' cs s
def CB(b:Nat)(S:Src)(f:Nat):Prop:=∀ (w:World) (k:Nat) (R:Except Nat (List St×Nat)),Rw w b S k->Ops w->Kds w b S->pB S.T f k=some R->Calls Tryz.prog 72 #[.pointer (some ⟨b,0,none⟩)] w (WP w b S R (blkOk w))
def CS(b:Nat)(S:Src)(f:Nat):Prop:=∀ (w:World) (k:Nat) (R:Except Nat (St×Nat)),Rw w b S k->Ops w->Kds w b S->pS S.T f k=some R->Calls Tryz.prog 111 #[.pointer (some ⟨b,0,none⟩)] w (WP w b S R (stOk w))
def PartKs(b:Nat)(S:Src)(f:FuncId)(caps:Array Value)(g:St->Nat->PR St):Prop:=∀ (w:World) (B sb k:Nat) (st:St) (R:Except Nat (St×Nat)),Rw w b S k->Ops w->Kds w b S->Away S sb->b<B->B<=sb->Sb B w sb st->g st k=some R->
 Calls Tryz.prog f (#[.pointer (some ⟨b,0,none⟩),.pointer (some ⟨sb,0,none⟩)]++caps) w (SP w b sb B S R)
theorem StsL.part{B sb:Nat}{l:List St}(h:StsL (W.1.size<=·) w a 0 l)(j:B<=sb)(A:sb<W.1.size):StsL (fun c=>B<=c/\c≠sb) w a 0 l:=
 StsL.weak (fun c g=>by have:=g;exact⟨by omega,by omega⟩) h
def gWhile(T:List Wd)(f:Nat)(st:St)(k:Nat):PR St:=andT (pX T k) fun x j=>andT (pB T f j) fun c m=>some (.ok (((st.setKind 5).setExpr x).setBody c,m))
def gIf(T:List Wd)(f:Nat)(st:St)(k:Nat):PR St:=andT (pX T k) fun x j=>andT (pB T f j) fun c m=>
 if isT T m wElse=true then andT (pB T f (m+1)) fun d n=>some (.ok ((((st.setKind 4).setExpr x).setBody c).setEls d,n)) else some (.ok (((st.setKind 4).setExpr x).setBody c,m))
theorem while_part{f:Nat}(Y:b≠0)(a4:CB b S f):PartKs b S 74 #[] (gWhile S.T f):=by
 intro w B sb k st R h X a5 hA hb W hs A;unfold gWhile at A;have a0:b≠sb:=by omega
 have a8:sb≠0:=by omega
 have a9:b<=sb:=by omega
 go_in;go_wp2_with fail;rcases hx1:pX S.T k with _| (V|⟨x1,V⟩)
 .rw[hx1]at A;cases A
 .rw[hx1]at A;cases A;apply (expr_any Y h X hx1).mono;rintro e W1 ⟨K,rfl⟩;exact⟨z,(Kp.refl w b sb).trans K.widen,z⟩
 rw[hx1,andT_ok]at A;apply (expr_any Y h X hx1).mono;rintro e W1 ⟨K,⟨cs,rfl,hX⟩,h1⟩;have Z:=hs.kp K hb W;have b6:=(Kp.refl w b sb).trans (K.widen (b:=sb));have H:=hX.part W hs.lt;obtain⟨v0,c0⟩:=Z.cell (j:=0) (by decide);have f0:=Z.frozen 0;have C:=Z;have D:=h1;have g:=b6;replace C:=C.kind 5;replace D:=D.setO a0 hA 0 (I 5);replace g:=g.setB 0 (I 5);have b8:=st_run (C.there (o:=5) (n:=7) (by decide)) H.cells.1 H.cells.2;have b9:=H.cells.1;have a7:=ex_keep H 0 (I 5);replace C:=C.expr a7;replace D:=D.setOs a0 hA 5 cs;replace g:=Kp.setCellsB cs 5 g;have J:=O (And.intro C (And.intro D g));go_wp2_with fail;obtain⟨C,D,g⟩:=J.o;generalize ((W1.setCell ⟨sb,0,none⟩ (I 5)).setCells sb 5 cs)=W2 at *
 rcases hx3:pB S.T f V with _| (j3|⟨U,j3⟩)
 .rw[hx3]at A;cases A
 .rw[hx3]at A;cases A;apply (a4 _ V _ D (X.kp2 g Y a8) (a5.kp g a9) hx3).mono;rintro e W3 ⟨M,rfl⟩;exact⟨z,g.trans M.widen,z⟩
 rw[hx3,andT_ok]at A;apply (a4 _ V _ D (X.kp2 g Y a8) (a5.kp g a9) hx3).mono;rintro e W3 ⟨M,⟨N,a1,rfl,c8,a2⟩,h3⟩;have Q:=C.kp M hb W;have b4:=g.trans (M.widen (b:=sb));have a6:=a2.part W C.lt;obtain⟨c9,c19⟩:=Q.cell (j:=19) (by decide);have b7:=Q.frozen 19;have G:=Q;have F:=h3;have E:=b4;have b5:=a6;replace G:=G.body c8 b5;replace F:=F.setO a0 hA 19 (.slice N U.length a1);replace E:=E.setB 19 (.slice N U.length a1);have J:=O (And.intro G (And.intro F E));go_wp2_with fail;obtain⟨G,F,E⟩:=J.o;generalize (W3.setCell ⟨sb,19,none⟩ (.slice N U.length a1))=W4 at *;cases A;go_end0;exact⟨E,z,G,F⟩
theorem if_part{f:Nat}(W:b≠0)(a5:CB b S f):PartKs b S 71 #[] (gIf S.T f):=by
 intro w B sb k st R h V a8 hA hb G hs g;unfold gIf at g;have a4:b≠sb:=by omega
 have b4:sb≠0:=by omega
 have b5:b<=sb:=by omega
 go_in;go_wp2_with fail;rcases hx1:pX S.T k with _| (j1|⟨x1,j1⟩)
 .rw[hx1]at g;cases g
 .rw[hx1]at g;cases g;apply (expr_any W h V hx1).mono;rintro e W1 ⟨a0,rfl⟩;exact⟨z,(Kp.refl w b sb).trans a0.widen,z⟩
 rw[hx1,andT_ok]at g;apply (expr_any W h V hx1).mono;rintro e W1 ⟨a0,⟨cs,rfl,hX⟩,h1⟩;have a9:=hs.kp a0 hb G;have d7:=(Kp.refl w b sb).trans (a0.widen (b:=sb));have X:=hX.part G hs.lt;obtain⟨v0,c0⟩:=a9.cell (j:=0) (by decide);have f0:=a9.frozen 0;have C:=a9;have D:=h1;have A:=d7;replace C:=C.kind 4;replace D:=D.setO a4 hA 0 (I 4);replace A:=A.setB 0 (I 4);have d9:=st_run (C.there (o:=5) (n:=7) (by decide)) X.cells.1 X.cells.2;have e1:=X.cells.1;have d1:=ex_keep X 0 (I 4);replace C:=C.expr d1;replace D:=D.setOs a4 hA 5 cs;replace A:=Kp.setCellsB cs 5 A;have E:=O (And.intro C (And.intro D A));go_wp2_with fail;obtain⟨C,D,A⟩:=E.o
 generalize ((W1.setCell ⟨sb,0,none⟩ (I 4)).setCells sb 5 cs)=W2 at *;rcases hx3:pB S.T f j1 with _| (Y|⟨x3,Y⟩)
 .rw[hx3]at g;cases g
 .rw[hx3]at g;cases g;apply (a5 _ j1 _ D (V.kp2 A W b4) (a8.kp A b5) hx3).mono;rintro e W3 ⟨a1,rfl⟩;exact⟨z,A.trans a1.widen,z⟩
 rw[hx3,andT_ok]at g;apply (a5 _ j1 _ D (V.kp2 A W b4) (a8.kp A b5) hx3).mono;rintro e W3 ⟨a1,⟨a3,b9,rfl,e3,c8⟩,h3⟩;have a2:=C.kp a1 hb G;have d3:=A.trans (a1.widen (b:=sb));have d0:=c8.part G C.lt;obtain⟨e5,c19⟩:=a2.cell (j:=19) (by decide);have d8:=a2.frozen 19;have M:=a2;have K:=h3;have H:=d3;have d4:StsL (fun c=>B<=c/\c≠sb) W3 a3 0 x3:=d0;replace M:=M.body e3 d4;replace K:=K.setO a4 hA 19 (.slice a3 x3.length b9);replace H:=H.setB 19 (.slice a3 x3.length b9);have E:=O (And.intro M (And.intro K H));go_wp2_with fail;obtain⟨M,K,H⟩:=E.o;generalize (W3.setCell ⟨sb,19,none⟩ (.slice a3 x3.length b9))=W4 at *;apply (accept_any K wElse).mono;rintro e W5 ⟨b7,rfl,J⟩;have a7:=M.kp b7 hb G
 have F:=H.trans (b7.widen (b:=sb));obtain⟨m,hm⟩:=eX (isT S.T Y wElse);rw[hm]at g J;rw[hm];cases m
 .rw[if_neg Bool.false_ne_true]at g J;go_wp2;cases g;go_end0;exact⟨F,z,a7,J⟩
 .rw[if_pos rfl]at g J;go_wp2_with fail;rcases hx6:pB S.T f (Y+1) with _| (j6|⟨x6,j6⟩)
  .rw[hx6]at g;cases g
  .rw[hx6]at g;cases g;apply (a5 _ (Y+1) _ J (V.kp2 F W b4) (a8.kp F b5) hx6).mono;rintro e W6 ⟨Z,rfl⟩;exact⟨z,F.trans Z.widen,z⟩
  rw[hx6,andT_ok]at g;refine(a5 _ (Y+1) _ J (V.kp2 F W b4) (a8.kp F b5) hx6).mono ?_;rintro e W6 ⟨Z,⟨a6,b8,rfl,e4,c9⟩,h6⟩;have b6:=a7.kp Z hb G;have d6:=F.trans (Z.widen (b:=sb));have d2:=c9.part G a7.lt;obtain⟨e6,e0⟩:=b6.cell (j:=20) (by decide);have e2:=b6.frozen 20;have N:=b6;have U:=h6;have Q:=d6;have d5:StsL (fun c=>B<=c/\c≠sb) W6 a6 0 x6:=d2;replace N:=N.els e4 d5;replace U:=U.setO a4 hA 20 (.slice a6 x6.length b8);replace Q:=Q.setB 20 (.slice a6 x6.length b8);have E:=O (And.intro N (And.intro U Q));go_wp2_with fail;obtain⟨N,U,Q⟩:=E.o;generalize (W6.setCell ⟨sb,20,none⟩ (.slice a6 x6.length b8))=W7 at *;cases g;go_end0;exact⟨Q,z,N,U⟩
def gFold:List (St->Nat->PR St)->St->Nat->PR St
 | [],st,k=>some (.ok (st,k))
 |g::r,st,k=>andT (g st k) fun st' j=>gFold r st' j
theorem gFold_at{G:List (St->Nat->PR St)}{g:St->Nat->PR St}(h:G[i]? =some g)(st:St)(k:Nat):gFold (G.drop i) st k=andT (g st k) fun A j=>gFold (G.drop (i+1)) A j:=by obtain⟨w,rfl⟩:=List.getElem?_eq_some_iff.1 h;rw[List.drop_eq_getElem_cons w,gFold]
theorem plain_part(a3:b≠0){B sb kind:Nat}{st:St}{R:Except Nat (St×Nat)}{fv:Value}{C:List FuncId}{G:List (St->Nat->PR St)}(hG:∀i,i<C.length->∃g,G[i]? =some g/\(C.getD i 0=63∨C.getD i 0=65∨C.getD i 0=66∨C.getD i 0=68)/\PartOk b S (C.getD i 0) g)(a7:G.length=C.length)
  (h:Rw w b S k)(hO:Ops w)(hP:Plain w b fv kind C)(hA:Away S sb)(hb:b<B)(hB:B<=sb)(V:Sb B w sb st)(A:(andT (gFold G (st.setKind kind) k) fun E j=>gEnd S.T E j)=some R)(hn:C.length<10):
  ∃U N:Nat,fv= .func (.func 110) #[] #[Pt U,Pt N]/\Calls Tryz.prog 110 #[Pt b,Pt sb,Pt U,Pt N] w (SP w b sb B S R):=by
 obtain⟨U,N,a,cap,a6,b9,c1,b7,c2,a5⟩:=hP;refine⟨U,N,a6,?_⟩;have a8:b≠sb:=by omega
 have a4:sb≠0:=by omega
 have c8:U≠sb:=by omega
 have b4:N≠sb:=by omega
 obtain⟨v0,c0⟩:=V.cell (j:=0) (by decide);have f0:=V.frozen 0;have M:=V.kind (kind:Int);have H:=h.setO a8 hA 0 (I kind);have D:=(Kp.refl w b sb).setB 0 (I kind);have a2:=a5;have d2:(w.setCell ⟨sb,0,none⟩ (.int .i64 (kind:Int))).cell? ⟨N,0,none⟩=some (.slice a C.length cap):=(World.cell?_setCell_far w ⟨sb,0,none⟩ ⟨N,0,none⟩ _ (Ne.symm b4)).trans c2;have W:=O (And.intro M (And.intro H D));have HP:=O a2;clear M H D a5 a2 h V;go_in;go_wp2;clear c0 c1 c2 d2;generalize w.setCell ⟨sb,0,none⟩ (I kind)=W1 at *;have HR:=O A;clear A;obtain⟨K,hN⟩:=eX (C.length);rw[hN]at hn ⊢;have HN:=O hN;clear hN
 go_loopg [14] K (fun x iv wr=>∃ (i:Nat) (E:St) (j:Nat),i<=K/\x=K-i/\iv=I i/\Hid ((andT (gFold (G.drop i) E j) fun E j=>gEnd S.T E j)=some R)/\Hid (Sb B wr sb E/\Rw wr b S j/\Kp w wr b sb))
 .exact⟨0,_,k,Nat.zero_le _,z,z,HR,W⟩
 .obtain⟨i,E,j,hi,rfl,rfl,HR,W⟩:=hrel;by_cases a1:i<K
  .obtain⟨g,hg,h4,a0⟩:=hG i (by rw[HN.o];exact a1);obtain⟨Q,X,rfl,b8,c3⟩:=HP i (by rw[HN.o];exact a1);obtain⟨M,H,D⟩:=W;have d3:wr.cell? ⟨Q,X+i,none⟩=some (.func (.func (C.getD i 0)) #[] #[]):=by rw[<-c3];have:=D.block Q (World.block_lt_of_cell? w _ c3) (by omega) (by omega);simp[World.cell?,this]
   clear c3;have b6:(i:Int)< (K:Int):=by omega
   obtain⟨F,hF⟩:=eX (C.getD i 0);rw[hF]at d3 a0 h4;clear hF;have A:=HR.o;rw[gFold_at hg]at A;rw[andT_assoc]at A;rcases h4 with rfl|rfl|rfl|rfl;all_goals
    go_wp2_with fail;rcases hx:g E j with _| (j2|⟨x,j2⟩)
    .rw[hx]at A;cases A
    .rw[hx]at A;cases A;apply (a0 wr B sb j E _ H (hO.kp2 D a3 a4) hA hb hB M hx).mono;rintro e W2 ⟨J,rfl⟩;exact⟨z,D.trans J,z⟩
    .rw[hx,andT_ok]at A;apply (a0 wr B sb j E _ H (hO.kp2 D a3 a4) hA hb hB M hx).mono;rintro e W2 ⟨J,rfl,Y,Z⟩;have b5:=O (And.intro Y (And.intro Z (D.trans J)));have a9:=O A;clear Y Z J M H D A a0 d3;go_wp2;go_roundg (K- (i+1))
     .exact⟨i+1,x,j2,by omega,z,by simp,a9,b5⟩
     .omega
  .obtain rfl:i=K:=by omega
   have b6:¬ ((i:Int)< (i:Int)):=by omega
   have A:=HR.o;obtain⟨M,H,D⟩:=W;rw[List.drop_eq_nil_of_le (by rw[a7,HN.o];exact Nat.le_refl _),gFold,andT_ok,gEnd]at A;go_wp2_with fail;rcases hx:want S.T sSemi j with _| (j2|⟨x,j2⟩)
   .rw[hx]at A;cases A
   .rw[hx]at A;cases A;apply (want_any H sSemi hx).mono;rintro e W2 ⟨J,rfl⟩;exact⟨z,D.trans J.widen,z⟩
   .rw[hx,andT_ok]at A;cases A;apply (want_any H sSemi hx).mono;rintro e W2 ⟨J,rfl,Z⟩;have Y:=M.kp J hb hB;go_wp2;go_end0;exact⟨D.trans J.widen,z,Y,Z⟩
end Go.Proofs.YtgppcdfgdaggjaaGreatDoor
