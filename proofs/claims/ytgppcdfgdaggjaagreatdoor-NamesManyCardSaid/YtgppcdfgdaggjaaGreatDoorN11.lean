/- Texts laid together. No condition but what each law says. -/
import Derived.Test.YtgppcdfgdaggjaaGreatDoorN10
import Derived.WalkMore
set_option maxRecDepth 100000
set_option maxHeartbeats 16000000
namespace Go.Proofs.YtgppcdfgdaggjaaGreatDoor
open Go.RowKit Go.Proofs.Tryz Go.Maps Go.Shelf
open Go renaming World→Fk,KeepsOthers→IE,Value→Fr,plainElem→GO,Boxed→Jl,undef→Gm
open Go.World renaming putObj_heap_other→HB,alloc_heap_new→Df,putObj_heap_same→Jd,size_alloc→Ho,cell?→FI,ownsRow_nil→HF
open _root_.Array renaming getElem?_eq_some_iff→FT,replicate_succ→Hz,replicate_zero→HA
open Go.RowKit.Below renaming heap_alloc→Iu,heap_setCell→FK,refl→FB
open Nat renaming le_refl→FL,le_succ→Hd,reduceAdd→Ij,reduceSub→Ik,le_trans→FU,lt_of_lt_of_le→FJ,zero_le→FX
open List renaming append_toArray→HI,cons_append→GM,length_cons→FV,length_nil→Gg,nil_append→Hw,push_toArray→HO,size_toArray→Hh,mem_cons→FQ,not_mem_nil→FO,getElem?_eq_getElem→FC,getD_eq_getElem?_getD→FD
open Go.Value renaming ownBlock→GF
open Go.KeepsOthers renaming setCell→Ib
variable {V W w w1:Fk}{b c g j k n n0 n5:Nat}{s:ByteArray}{u v v0 v1:Fr}{a:Option Addr}
theorem qP(b:Nat)(w:Fk):Calls prog 60 #[Pt b] w fun e w'=>e= .returned (.func (.func 103) #[] #[Pt w.1.size])/\w'=w.alloc (.cells #[Pt b] 145):=by go_in;go_wp2;go_ret;exact⟨z,z⟩
def eF(L:List Nat)(W W':Fk):Prop:=∀j∈L,W'.1[j]? =W.1[j]?
theorem eF.trans{L:List Nat}{B C:Fk}(h:eF L w B)(A:eF L B C):eF L w C:=fun j g=> (A j g).trans (h j g)
theorem eF.put{L:List Nat}{l:Nat}(o:Obj)(w:∀j∈L,j<l):eF L W (W.putObj l o):=fun j g=>HB (by have:=w j g;omega)
def yQ(L:List Nat)(ok:Nat->Prop)(nxt:Nat->Nat)(I:Nat->Fk->Prop)(Ix:Code->Fk->Prop)(k:Nat)(W:Fk):Exit->Act->Fk->Prop
 | .normal,_,W'=>IE W W'/\eF L W W'/\ok k/\I (nxt k) W'
 | .ret,_,W'=>IE W W'/\Ix .ret W'
 | .exit id,_,W'=>IE W W'/\Ix (.exit id) W'
 | .goto t,_,W'=>IE W W'/\Ix (.goto t) W'
 | .panic _,_,_=>False
 | .outgrown,_,_=>False
def xL(F:Fence)(n:Nat)(P:Program)(gf:Nat)(lb:Array Fr)(encs:Nat->Array Fr)(b:Nat)(L:List Nat)(bd ok fin:Nat->Prop)(nxt:Nat->Nat)(k0:Nat)(w:Fk):Prop:=
 ∀ (l:Nat) (J:Nat->Fk->Prop) (Jx:Fk->Prop) (W:Fk),eF L w W->
  (∀k A B,J k A->Kp A B b b->J k B)->(∀A B,Jx A->Kp A B b b->Jx B)->
  (∀k A,J k A->bd k->YieldAt F (n-1) P l (encs k) A fun e B=> (e= .returned (.bool true)/\J (nxt k) B/\eF L A B/\A.1.size<=B.1.size/\ok k)∨(e= .returned (.bool false)/\Jx B))->
  J k0 W->CallsIn F n P gf (#[.func (.yield l) #[] #[]]++lb) W fun e B=> (∃v,e= .returned v)/\((∃k,fin k/\J k B)∨Jx B)
theorem hP{F:Fence}{P:Program}{g:Operand}{ps:Array Tmp}{assign body:Code}{a6:Exit->Act->Fk->Prop}{a:Act}
  (e3:F.round=none)(h1:1<=n){gf:Nat}{lb:Array Fr}(hg:a.eval g= .func (.func gf) #[] lb)(b6:F.fn gf)(eg:∀args w,(callFunc gf args).run P w= .ok (.enter gf args) w)
  {a2:Nat->Array Fr}{L:List Nat}{Q ok fin:Nat->Prop}{b5:Nat->Nat}
  (e6:xL F (n-1) P gf lb a2 b L Q ok fin b5 n0 w)(hb:b<w.1.size)(hL:∀j∈L,j<w.1.size)(e2:∀x,(a2 x).size=ps.size)
  (U:Nat->Fk->Prop)(Ix:Code->Fk->Prop)(hI:OwnFrom w.1.size U)(a4:∀c,OwnFrom w.1.size (fun (_:Unit)=>Ix c))
  (b8:∀k E B,U k E->Kp E B b b->U k B)(b9:∀c E B,Ix c E->Kp E B b b->Ix c B)(h0:U n0 w)
  (e4:∀ (l:Nat) (k:Nat) (W:Fk),U k W->Q k->
   assign.wpIn (F.inRound l) (n-1-1) P (Exit.then (fun a' W'=>IE W W'/\eF L W W'/\∃M:Fk->Prop,OwnFrom w.1.size (fun (_:Unit)=>M)/\M W'/\∀W2,M W2->body.wpIn (F.inRound l) (n-1-1) P (yQ L ok b5 U Ix k W2) a' W2) (fun _ _ _=>False))
    {tmps:=(ps.zip (a2 k)).foldl (fun t (p,v)=>t.setIfInBounds p v) a.tmps,defers:=[]} W)
  (d2:∀ (D:Nat) (k:Nat) (W:Fk),w.1.size<=D->fin k->U k W->W.1[D]? =some (.deferred (some []))->a6 .normal {a with defers:={target:= .collected D,args:= #[]}::a.defers} W)
  (e7:∀ (D:Nat) (c:Code) (W:Fk),w.1.size<=D->Ix c W->W.1[D]? =some (.deferred (some []))->c.wpIn F n P a6 {a with defers:={target:= .collected D,args:= #[]}::a.defers} W):
  (Code.rangeFunc g ps assign body).wpIn F n P a6 a w:=by
 apply wpIn_rangeFunc;intro fn d3;rw[e3];obtain⟨A,S⟩:∃A:LoopState->Option Code->Loop,A=fun st pe=> {state:=st,pending:=pe,fn:=fn,tmps:=a.tmps,params:=ps,assign:=assign,body:=body,defers:=w.1.size}:=⟨_,z⟩;obtain⟨N,a1⟩:=eX ((w.alloc (.deferred (some []))).alloc (.loop (A .ready none)));have c9:N.1[w.1.size+1]? =some (.loop (A .ready none)):=by rw[<-a1];have:=Df (w.alloc (.deferred (some []))) (.loop (A .ready none));rwa [Ho]at this
 have c8:N.1[w.1.size]? =some (.deferred (some [])):=by rw[<-a1];exact(Iu _ _ _ (by simp)).trans (Df w _)
 have b7:U n0 N:=by rw[<-a1];exact hI.alloc _ (hI.alloc _ h0)
 have d0:eF L w N:=by rw[<-a1];intro j hj;have:=hL j hj;exact(Iu _ _ _ (by simp;omega)).trans (Iu _ _ _ this)
 refine⟨w.1.size+1,[{target:= .collected w.1.size,args:= #[]}],N,{target:= .fn (.func gf) lb,args:= #[.func (.yield (w.1.size+1)) #[] #[]]},N,gf,
  #[.func (.yield (w.1.size+1)) #[] #[]]++lb,N,?_,?_,?_,?_,fun _=>h1,?_⟩
 .rw[<-a1,S];exact run_enterLoop_outer _ _ _ _ _
 .simp only[resolve,hg];simp[go_sem]
 .intro f' a9;simp[Target.leads]at a9;subst a9;exact b6
 .simp[invoke,go_sem,eg]
 .have a5:∀ {E B:Fk} {r:Nat} {o:Obj},Kp E B b b->w.1.size<=r->E.1[r]? =some o->B.1[r]? =some o:=fun C V ho=> (C.block _ (FT.1 ho).1 (by omega) (by omega)).trans ho;refine(e6 (w.1.size+1)
   (fun k W=>U k W/\W.1[w.1.size+1]? =some (.loop (A .ready none))/\W.1[w.1.size]? =some (.deferred (some [])))
   (fun W=>∃c,Ix c W/\W.1[w.1.size+1]? =some (.loop (A .done (some c)))/\W.1[w.1.size]? =some (.deferred (some [])))
   N d0
   (fun k E B hs C=>⟨b8 k E B hs.1 C,a5 C (Hd _) hs.2.1,a5 C (FL _) hs.2.2⟩)
   (fun E B hs C=>by
    let ⟨c,hc,R,d5⟩:=hs
    exact⟨c,b9 c E B hc C,a5 C (Hd _) R,a5 C (FL _) d5⟩)
   ?_ ⟨b7,c9,c8⟩).mono ?_
  .rintro x W ⟨hi,R,C⟩ d1;have hy:=run_yield (P:=P) (args:=a2 x) R (by rw[S];exact e2 x);rw[S]at hy;refine⟨fn,_,assign,body,hy,roundIn_of_wpIn d3 (wpIn_mono (e4 _ x W hi d1) ?_)⟩;rintro e0 a0 W0 b4;cases e0<;>first|exact b4.elim|skip
   let ⟨a7,e5,M,hM,hm,hB⟩:=b4
   have a8:=a7.same _ _ R z;have d6:=a7.same _ _ C z;have d9:w.1.size+1<W0.1.size:=(FT.1 a8).1;refine⟨_,run_beginRound a8 (by rw[S]),?_⟩;have d8:(W0.putObj (w.1.size+1) (.loop {A .ready none with state:= .busy})).1[w.1.size+1]? =some (.loop {A .ready none with state:= .busy}):=Jd d9;have d4:(W0.putObj (w.1.size+1) (.loop {A .ready none with state:= .busy})).1[w.1.size]? =some (.deferred (some [])):=(HB (by omega)).trans d6;have e8:eF L W (W0.putObj (w.1.size+1) (.loop {A .ready none with state:= .busy})):=e5.trans (eF.put _ (fun j hj=>by have:=hL j hj;omega));refine wpIn_mono (hB _ (hM.putObj (s:=()) _ hm (Hd _) a8 z)) ?_
   have fin:∀ (J:Option Code) (G:Fk),IE (W0.putObj (w.1.size+1) (.loop {A .ready none with state:= .busy})) G->
     (Instr.endRound (w.1.size+1) J).run P G= .ok (.bool J.isNone) (G.putObj (w.1.size+1) (.loop (A (if J.isNone then .ready else .done) J)))/\
     G.1[w.1.size+1]? =some (.loop {A .ready none with state:= .busy})/\
     (G.putObj (w.1.size+1) (.loop (A (if J.isNone then .ready else .done) J))).1[w.1.size+1]? =some (.loop (A (if J.isNone then .ready else .done) J))/\
     (G.putObj (w.1.size+1) (.loop (A (if J.isNone then .ready else .done) J))).1[w.1.size]? =some (.deferred (some [])):=fun J G K=>by
    have H:=K.same _ _ d8 z;have:=run_endRound (P:=P) J H;rw[S]at this ⊢;exact⟨this,by rw[S]at H;exact H,Jd (FT.1 H).1,(HB (by omega)).trans (K.same _ _ d4 z)⟩
   rintro e a3 G hp;cases e with
   |normal=>
    let ⟨K,d7,e1,X⟩:=hp
    let ⟨V,H,Z,Y⟩:=fin none G K
    refine⟨_,_,V,.inl ⟨z,⟨hI.putObj _ X (Hd _) H z,Z,Y⟩,(e8.trans d7).trans (eF.put _ (fun j hj=>by have:=hL j hj;omega)),?_,e1⟩⟩;have:=K.size;have:=a7.size;simp at *;omega
   |ret=>
    let ⟨K,X⟩:=hp
    let ⟨V,H,Z,Y⟩:=fin (some .ret) G K
    exact⟨_,_,V,.inr ⟨z,.ret,(a4 _).putObj (s:=()) _ X (Hd _) H z,Z,Y⟩⟩
   |exit id=>
    let ⟨K,X⟩:=hp
    let ⟨V,H,Z,Y⟩:=fin (some (.exit id)) G K
    exact⟨_,_,V,.inr ⟨z,.exit id,(a4 _).putObj (s:=()) _ X (Hd _) H z,Z,Y⟩⟩
   |goto t=>
    let ⟨K,X⟩:=hp
    let ⟨V,H,Z,Y⟩:=fin (some (.goto t)) G K
    exact⟨_,_,V,.inr ⟨z,.goto t,(a4 _).putObj (s:=()) _ X (Hd _) H z,Z,Y⟩⟩
   |panic ch=>exact hp.elim
   |outgrown=>exact hp.elim
  .rintro e W2 ⟨⟨v,rfl⟩,(⟨k,hS,hi,R,C⟩|⟨c,hi,R,C⟩)⟩
   .exact⟨none,_,by have:=run_endLoop (P:=P) R (by rw[S];simp);rw[S]at this;exact this,d2 _ k _ (FL _) hS (hI.putObj _ hi (Hd _) R z) ((HB (by omega)).trans C)⟩
   .exact⟨some c,_,by have:=run_endLoop (P:=P) R (by rw[S];simp);rw[S]at this;exact this,e7 _ c _ (FL _) ((a4 c).putObj (s:=()) _ hi (Hd _) R z) ((HB (by omega)).trans C)⟩
attribute [local go_sem] Oper.semAt_some
def AB(s:ByteArray)(p:Nat):Fr:= .agg #[.int .i64 (dL s p),.string (s.extract p (du s p)),.int .i64 (hI s p),.int .i64 (ao s p).1,.int .i64 (ao s p).2]
abbrev yZ (s:ByteArray) (k:Nat):Array Fr:= #[AB s (aY s k),.int .i64 (dj s (aY s k))]
def uq(w:Fk)(b:Nat):Nat:=match w.cell? ⟨b,3,none⟩ with
 |some (.int _ k)=>k.toNat
 |_=>0
theorem nV(h:Rd w b s k v0 v1):uq w b=k:=by unfold uq;rw[h.c3];simp
structure uJ (w:Fk) (b gk gs c:Nat) (s:ByteArray) (k:Nat):Prop where
 rd:Rd w b s k (.map (some gk)) (.map (some gs))
 Fc:w.ownsMap Tryz.prog 9 (GO Tryz.prog 3) gk 20 (jx iy 20)
 Fb:w.ownsMap Tryz.prog 9 (GO Tryz.prog 3) gs 20 (jx kz 20)
 er:gc w
 bx:w.1[c]? =some (.cells #[.pointer (some ⟨b,0,none⟩)] 145 (0,0))
 n1:gk≠b
 n2:gs≠b
 n3:c≠b
 n4:b≠7
theorem gc.same{B:Fk}(h:gc w)(g:B.1[7]? =w.1[7]?):gc B:=by
 let ⟨A,C,D,j⟩:=h
 have E:B.1[7]? ≠none:=by rw[g,Array.getElem?_eq_getElem A];simp
 refine⟨?_,C,D,?_⟩
 .rcases Nat.lt_or_ge 7 B.1.size with h|h
  .exact h
  .exact absurd (Array.getElem?_eq_none h) E
 .unfold FI at j ⊢;simp only[g];exact j
theorem lz{w':Fk}{D:DataW Unit}(h:w.ownsMap prog 9 (GO prog 3) g n D)(j:w'.1[g]? =w.1[g]?):w'.ownsMap prog 9 (GO prog 3) g n D:=by
 let ⟨F,C,A,E⟩:=h
 exact⟨F,C,j.trans A,E⟩
theorem uJ.same{B:Fk}{gk:Nat}(h:uJ w b gk j c s k)(g:eF [b,gk,j,c,7] w B):uJ B b gk j c s k:=
 ⟨h.rd.of (g b (by simp)),lz h.Fc (g gk (by simp)),lz h.Fb (g j (by simp)),h.er.same (g 7 (by simp)),(g c (by simp)).trans h.bx,h.n1,h.n2,h.n3,h.n4⟩
theorem uJ.kp{B:Fk}{gk:Nat}(h:uJ w b gk j c s k)(A:Kp w B b b)(C:Rd B b s g (.map (some gk)) (.map (some j))):uJ B b gk j c s g:=
 ⟨C,ef h.Fc A h.n1 h.n1,ef h.Fb A h.n2 h.n2,h.er.same (A.block 7 h.er.1 (Ne.symm h.n4) (Ne.symm h.n4)),(A.block c (FT.1 h.bx).1 h.n3 h.n3).trans h.bx,h.n1,h.n2,h.n3,h.n4⟩
theorem iV(s:ByteArray)(k:Nat):k<=aY s k:=by
 suffices H:∀n k,s.size-k<=n->k<=aY s k from H _ k rl
 intro n;induction n with
 |zero=>
  intro k A;have g:=dB ct s k;rw[es (fun h=>by have:=h.1;omega)];exact g
 |succ n w=>
  intro k A;have g:=dB ct s k;by_cases h:ae ct s k<s.size/\(aO s (ae ct s k)).toNat=35
  .have C:=io h.1 h.2;have j:=w (ae bu s (ae ct s k)) (by omega);rw[it h.1 h.2]at j;omega
  .rw[es h];exact g
theorem rs(n:Nat)(hn:1<=n){gk:Nat}(X:uJ w b gk g c s j)(a9:j<=s.size)(M:s.size<=4294967296):
  xL Fence.wide n prog 103 #[Pt c] (yZ s) b [b,gk,g,c,7] (fun k=>aY s k<s.size) (fun k=>dj s (aY s k)=0) (fun k=>¬aY s k<s.size) (fun k=>du s (aY s k)) j w:=by
 intro l a4 Jx W Y K d0 hY U;have V:=X.same Y;refine callsIn_of_wp func103 z trivial ?_ z;simp only[ntmps103,Hh,FV,Gg,Ij,Ik,Hz,HA,HO,HI,Hw,GM];gi_wp2_with fail;gi_loopw [] (fun wr=>∃k:Nat,k<=s.size/\a4 k wr/\uJ wr b gk g c s k) (fun wr=>s.size+1-uq wr b)
 .exact⟨j,a9,U,V⟩
 .let ⟨k,hk,Z,D⟩:=hrel
  have c0:wr.cell? (ad c 0)=some (Pt b):=by simp[FI,D.bx]
  have Q:=nV D.rd;gi_wp2_with fail;refine⟨trivial,CallsIn.mono (callsIn_wide.2 (vz D.rd hk M)) ?_⟩;rintro e W1 ⟨rfl,S,F,a3⟩;have A:=D.kp F S;have H:=K _ _ _ Z F;let ⟨p,E⟩:=eX (aY s k)
  have a6:=O E;have a8:=iV s k;have J:=hY k;dsimp only[yZ]at J;rw[E]at A a3 a8 J ⊢;have c1:W1.cell? (ad c 0)=some (Pt b):=by simp[FI,A.bx]
  by_cases C:p<s.size
  .have hd:=eP C;rw[hd];gi_wp2_with fail;refine⟨trivial,CallsIn.mono (callsIn_wide.2 (tY A.rd A.Fc A.Fb A.n1 A.n2 C M A.er A.n4)) ?_⟩;rintro e W2 ⟨rfl,R,G⟩;have b6:=A.kp G R;have b7:=K _ _ _ H G;let ⟨fn,tmps,b9,body,hy,a7⟩:=J W2 b7 C
   unfold AB at hy;gi_wp2;apply a7.mono;rintro e W3 (⟨rfl,a2,b8,c9,a5⟩|⟨rfl,a1⟩)
   .have N:=b6.same b8;have c8:=hf C a5;have b4:=iq C;have b5:=nV N.rd;gi_wp2;go_roundw
    .exact⟨du s p,b4,a2,N⟩
    .rw[Q,b5];omega
   .gi_wp2;refine bodyPost_ret (results_none z _ _ _) z ?_;exact⟨⟨_,z⟩,.inr a1⟩
  .have hd:=dv C;rw[hd];gi_wp2;go_end0;exact⟨⟨_,z⟩,.inl ⟨k,by rw[a6.o];exact C,H⟩⟩
def gr(s:ByteArray)(p:Nat):Wd:=⟨dL s p,s.extract p (du s p),hI s p,(ao s p).1,(ao s p).2⟩
theorem jM(h:aY s k<s.size)(g:dj s (aY s k)=0):s.size-du s (aY s k)<s.size-k:=by have w:=iV s k;have j:=hf h g;omega
def ea(s:ByteArray)(k:Nat)(acc:List Wd):List Wd× (Int×Int)×Int:=
 if _h:aY s k<s.size then
  if _h2:dj s (aY s k)=0 then ea s (du s (aY s k)) (acc++[gr s (aY s k)]) else ([],ao s (aY s k),dj s (aY s k))
 else (acc,(0,0),0)
termination_by s.size-k
decreasing_by exact jM _h _h2
theorem fi{acc:List Wd}(h:¬aY s k<s.size):ea s k acc=(acc,(0,0),0):=by rw[ea.eq_def,dif_neg h]
theorem gH{acc:List Wd}(h:aY s k<s.size)(g:¬dj s (aY s k)=0):ea s k acc=([],ao s (aY s k),dj s (aY s k)):=by rw[ea.eq_def,dif_pos h,dif_neg g]
theorem hW{acc:List Wd}(h:aY s k<s.size)(g:dj s (aY s k)=0):ea s (du s (aY s k)) (acc++[gr s (aY s k)])=ea s k acc:=by rw[ea.eq_def s k,dif_pos h,dif_pos g]
def cm(s:ByteArray):List Wd× (Int×Int)×Int:=if 65536<s.size then ([],(0,0),3) else ea s 0 []
structure vd (w:Fk) (B0:Nat) (s:ByteArray) (R:List Wd× (Int×Int)×Int) (k:Nat) (W:Fk):Prop where
 ex:∃acc v,ea s k acc=R/\acc.length<=k/\k<=s.size/\Jl W (w.1.size+1) 79 v/\W.ownsRow B0 142 5 v acc.length (acc.flatMap Wd.cells)
 b2:Jl W (w.1.size+1+1) 33 (.int .i64 0)
 b3:Ps W (w.1.size+1+1+1) (0,0)
 b0:Ps W w.1.size (0,0)
 bl:Below w.1.size w W
 sz:B0<=W.1.size
structure AK (w:Fk) (R:List Wd× (Int×Int)×Int) (W:Fk):Prop where
 b1:Jl W (w.1.size+1) 79 (.slice none 0 0)
 b2:Jl W (w.1.size+1+1) 33 (.int .i64 R.2.2)
 b3:Ps W (w.1.size+1+1+1) R.2.1
 b0:Ps W w.1.size (0,0)
 bl:Below w.1.size w W
 nl:R.1=[]
theorem Ps.kept{row:Option Nat}{p:Int×Int}(h:Ps W b p)(j:W.grownBy w row)(g:some b≠row):Ps w b p:=(j.block b h.lt g).trans h
theorem vd.kept{R:List Wd× (Int×Int)×Int}{row:Option Nat}(h:vd w j s R k W)(A:W.grownBy V row)
  (C:∀r,row=some r->w.1.size+4<=r/\(r<j∨∃o:Obj,W.1[r]? =some o/\o.isCells=false)):vd w j s R k V:=by
 let ⟨acc,v,G,J,F,H,D⟩:=h.ex
 have ne:∀x,x<4->some (w.1.size+x)≠row:=fun x U e=>by have:=(C _ e.symm).1;omega
 refine⟨⟨acc,v,G,J,F,H.kept A (ne 1 (by decide)),D.kept A ?_⟩,h.b2.kept A (ne 2 (by decide)),h.b3.kept A (ne 3 (by decide)),h.b0.kept A (ne 0 (by decide)),h.bl.grown A h.bl.size (fun r e=>by have:=(C r e).1;omega),FU h.sz A.size⟩;rcases D.2 with ⟨rfl,_⟩|⟨g,cap,S,rfl,Q,K,_⟩
 .exact .inl z
 .refine .inr fun e'=>?_;rcases(C g (by simpa [GF]using e'.symm)).2 with N|⟨o,E,M⟩
  .omega
  .rw[K]at E;cases E;cases M
theorem AK.kept{R:List Wd× (Int×Int)×Int}{row:Option Nat}(h:AK w R W)(g:W.grownBy V row)(j:∀r,row=some r->w.1.size+4<=r):AK w R V:=by
 have ne:∀x,x<4->some (w.1.size+x)≠row:=fun x A e=>by have:=j _ e.symm;omega
 exact⟨h.b1.kept g (ne 1 (by decide)),h.b2.kept g (ne 2 (by decide)),h.b3.kept g (ne 3 (by decide)),h.b0.kept g (ne 0 (by decide)),h.bl.grown g h.bl.size (fun r e=>by have:=j r e;omega),h.nl⟩
theorem Kp.Er(h:Kp W w b b):W.grownBy w (some b):=⟨h.os,h.tape,h.output,h.size,fun k j g=>h.block k j (fun e=>g (by rw[e])) (fun e=>g (by rw[e]))⟩
theorem gm{e size:Nat}{xs:List Fr}(h:W.ownsRow j e size v n xs)(g:b<j):some b≠v.ownBlock:=by intro e';have:=(h.lt b e'.symm).1;omega
theorem vd.push{R:List Wd× (Int×Int)×Int}(h:vd w n0 s R k W)(a0:w.1.size+4<=n0){acc:List Wd}{v':Fr}{t:Wd}{o:Obj}
  (N:Jl W (w.1.size+1) 79 v)(C:W.ownsRow n0 142 5 v acc.length (acc.flatMap Wd.cells))(K:w1.ownsRow n0 142 5 v' (acc.length+1) (acc.flatMap Wd.cells++t.cells))(A:(W.alloc o).grownBy w1 v.ownBlock)
  (S:ea s n5 (acc++[t])=R)(V:acc.length+1<=n5)(Q:n5<=s.size):
  Jl w1 (w.1.size+1) 79 v/\vd w n0 s R n5 (w1.setCell ⟨w.1.size+1,0,none⟩ v')/\IE W (w1.setCell ⟨w.1.size+1,0,none⟩ v')/\
   ∀L:List Nat,(∀j∈L,j<W.1.size/\j≠w.1.size+1/\j<n0)->eF L W (w1.setCell ⟨w.1.size+1,0,none⟩ v'):=by
 have H:=(N.alloc o).kept A (gm C (by omega));have D:=grownBy_setCell' w1 (w.1.size+1) v';have ne:∀x y,x≠y->some (w.1.size+x)≠some (w.1.size+y):=fun x y Z e=>by have:=Option.some.inj e;omega
 refine⟨H,⟨⟨acc++[t],v',S,by simpa using V,Q,H.set v',?_⟩,?_,?_,?_,?_,?_⟩,?_,?_⟩
 .have E:=K.kept D (.inr (gm K (by omega:w.1.size+1<n0)).symm);simpa using E
 .exact((h.b2.alloc o).kept A (gm C (by omega))).kept D (ne 2 1 (by decide))
 .exact((h.b3.alloc o).kept A (gm C (by omega))).kept D (ne 3 1 (by decide))
 .exact((h.b0.alloc o).kept A (gm C (by omega))).kept D (ne 0 1 (by decide))
 .have Y:=h.bl.size;refine((h.bl.alloc Y o).grown A (by simp;omega) (fun r e=>?_)).setCell (p:=⟨w.1.size+1,0,none⟩) (Hd _) v';have:=(C.lt r e).1;omega
 .have G:=A.size;have E:=D.size;have J:=h.sz;simp at G;omega
 .refine((KeepsOthers.alloc W o).trans (KeepsOthers.of_grownBy A fun j o' M F=>?_)).trans (Ib _ _ _);rcases(C.alloc o).2 with ⟨rfl,_⟩|⟨g,cap,a1,rfl,_,U,_⟩
  .simp[GF]at M
  .obtain rfl:g=j:=by simpa [GF]using M
   rw[U]at F;cases F;rfl
 .intro L X j F;let ⟨G,E,J⟩:=X j F
  exact(FK w1 (ad (w.1.size+1) 0) v' j E).trans ((A.block j (by simp;omega) (gm C J)).trans (Iu W o j G))
def pJ(w:Fk)(R:List Wd× (Int×Int)×Int)(e:Ending)(w':Fk):Prop:=
 ∃v,e= .returned (.tuple #[v,.agg #[.int .i64 R.2.1.1,.int .i64 R.2.1.2],.int .i64 R.2.2])/\w'.ownsRow w.1.size 142 5 v R.1.length (R.1.flatMap Wd.cells)/\Below w.1.size w w'
theorem ip{b' e size:Nat}{xs:List Fr}(h:w.ownsRow b e size v n xs)(E:b'<=b):w.ownsRow b' e size v n xs:=by
 refine⟨h.1,?_⟩;rcases h.2 with A|⟨g,cap,D,C,F,j⟩
 .exact .inl A
 .exact .inr ⟨g,cap,D,C,by omega,j⟩
attribute [local go_sem] Oper.semAt_some
theorem qh:prog.underlying 79=some (.slice 142):=by kernel_rfl
theorem sU:(prog.info? 142).map (fun i=> (i.zero,i.size,i.bytes))=some (some (.agg #[I 0,.string ⟨#[]⟩,I 0,I 0,I 0]),5,48):=by kernel_rfl
theorem zJ{B r:Nat}{t:TypeId}(h:Jl W B t v)(g:B≠r):Jl (W.setCell (ad r k) u) B t v:=(FK W (ad r k) u B g).trans h
theorem yx(n:Nat)(hn:4<=n)(s:ByteArray)(w:Fk)(E:s.size<=65536)(hE:gc w):
  CallsIn Fence.wide n prog 29 #[.string s] w (pJ w (ea s 0 [])):=by
 have h1:1<=n:=by omega
 have j7:¬ (65536:Int)< (s.size:Int):=by omega
 let ⟨R,hR⟩:=eX (ea s 0 [])
 have HR:=O hR;rw[hR];clear hR;refine callsIn_of_wp_marks func29 z trivial ?_ z;simp only[ntmps29,Hh,FV,Gg,Ij,Ik,Hz,HA,HO,HI,Hw,GM];apply wpIn_wide.2;go_wp2;apply wp_scope_straight;go_wp2;let ⟨K,Q⟩:=eX ((((w.alloc (.cells #[I 0,I 0] 32)).alloc (.cells #[.slice none 0 0] 79)).alloc (.cells #[I 0] 33)).alloc (.cells #[I 0,I 0] 32))
 have j5:K.1.size=w.1.size+4:=by rw[<-Q];simp
 have d0:Ps K w.1.size (0,0):=by have h:Ps (w.alloc (.cells #[I 0,I 0] 32)) w.1.size (0,0):=Df _ _;rw[<-Q];exact((h.alloc _).alloc _).alloc _
 have c8:Jl K (w.1.size+1) 79 (.slice none 0 0):=by have:=((Boxed.new (w.alloc (.cells #[I 0,I 0] 32)) 79 (.slice none 0 0)).alloc (.cells #[I 0] 33)).alloc (.cells #[I 0,I 0] 32);rw[Q]at this;simpa only[Ho]using this
 have b9:Jl K (w.1.size+1+1) 33 (I 0):=by have:=(Boxed.new ((w.alloc (.cells #[I 0,I 0] 32)).alloc (.cells #[.slice none 0 0] 79)) 33 (I 0)).alloc (.cells #[I 0,I 0] 32);rw[Q]at this;simpa only[Ho]using this
 have d2:Ps K (w.1.size+1+1+1) (0,0):=by have h:Ps ((((w.alloc (.cells #[I 0,I 0] 32)).alloc (.cells #[.slice none 0 0] 79)).alloc (.cells #[I 0] 33)).alloc (.cells #[I 0,I 0] 32)) _ (0,0):=Df _ _;rw[Q]at h;simpa only[Ho]using h
 have b7:bL w K:=by rw[<-Q];exact((((FB _ w).alloc rl _).alloc (by simp) _).alloc (by simp;omega) _).alloc (by simp;omega) _
 rw[Q];clear Q;have f3:=hE.1;have b5:=hE.below b7 f3;apply wp_label;go_wp2_with fail;apply (tM s K).mono;rintro e A ⟨b,gk,gs,rfl,d3,a9,a5,a8,l4,i1,i3⟩;have d5:=b5.below a8 b5.1;go_wp2_with fail;apply (qP b A).mono;rintro e W2 ⟨rfl,rfl⟩;have a2:bL A (A.alloc (.cells #[Pt b] 145)):=(FB _ _).alloc rl _;have e2:=d3.alloc (.cells #[Pt b] 145);have d7:(A.alloc (.cells #[Pt b] 145)).1[A.1.size]? =some (.cells #[Pt b] 145 (0,0)):=Df _ _;have k7:=d3.lt;have a4:uJ (A.alloc (.cells #[Pt b] 145)) b gk gs A.1.size s 0:=
  ⟨e2,fj a9 a2 a9.lt,fj a5 a2 a5.lt,d5.below a2 d5.1,d7,Ne.symm i1,Ne.symm i3,by omega,by omega⟩
 have e8:=a8.size;have k0:=a9.lt;have j9:=a5.lt;have Y:Below K.1.size K (A.alloc (.cells #[Pt b] 145)):=a8.trans (a2.mono e8);have h0:(A.alloc (.cells #[Pt b] 145)).1.size=A.1.size+1:=by simp
 have b6:vd w (A.alloc (.cells #[Pt b] 145)).1.size s R 0 (A.alloc (.cells #[Pt b] 145)):=
  ⟨⟨[],_,HR,rl,FX _,(Y.block _ c8.lt).trans c8,HF _ _ _ _⟩,(Y.block _ b9.lt).trans b9,d2.below Y d2.lt,d0.below Y d0.lt,b7.trans (Y.mono (by omega)),rl⟩
 clear d3 a9 a5 a8 b5 d5 a2 e2 d7 d0 c8 b9 d2 b7 Y HR;generalize h6:A.alloc (.cells #[Pt b] 145)=M at *;clear h6;have l5:A.1.size<M.1.size:=by omega
 clear h0;go_wp2;rename_i hx S H;have hT:∀ (D:Nat) (W:Fk) (v:Fr),M.1.size<=D->W.1[D]? =some (.deferred (some []))->Jl W (w.1.size+1) 79 v->Jl W (w.1.size+1+1) 33 (I R.2.2)->Ps W (w.1.size+1+1+1) R.2.1->Ps W w.1.size (0,0)->
   W.ownsRow M.1.size 142 5 v R.1.length (R.1.flatMap Wd.cells)->bL w W->
   S {tmps:= #[.string s,Gm,.slice none 0 0,Pt w.1.size,I 0,Pt (w.1.size+1),Pt (w.1.size+1+1),Pt (w.1.size+1+1+1),Gm,Gm,.string s,I s.size,.bool (decide ((65536:Int)<s.size)),Gm,.string s,Pt b,.func (.func 103) #[] #[Pt A.1.size],Gm,Gm,Gm,Gm,Gm,Gm,Gm,Gm,Gm,Gm,Gm,Gm,Gm,Gm],defers:=[{target:= .collected D,args:= #[]}]} W:=by
  intro D W v hD a1 q1 q2 q3 q0 b4 h8;refine H _ _ ?_;clear H S;have c1:=q1.cell;have c2:=q2.cell;have i4:=q3.c0;have k9:=q3.c1;have i5:=q0.c0;have j4:=q0.c1;have f0:=q0.frozen 0;have f1:=q0.frozen 1;go_wp2;go_region;go_wp2;rw[Exit.noGoto_ret];have X:D≠w.1.size:=by omega
  have Q0:Ps (((W.setCell (ad w.1.size 0) (I R.2.1.1)).setCell (ad w.1.size 1) (I R.2.1.2)).drew) w.1.size (R.2.1.1,R.2.1.2):=(q0.set0 R.2.1.1).set1 R.2.1.2;have d4:(((W.setCell (ad w.1.size 0) (I R.2.1.1)).setCell (ad w.1.size 1) (I R.2.1.2)).drew).1[D]? =some (.deferred (some [])):=
   (FK _ (ad w.1.size 1) _ D X).trans ((FK _ (ad w.1.size 0) _ D X).trans a1)
  have f4:bL w (((W.setCell (ad w.1.size 0) (I R.2.1.1)).setCell (ad w.1.size 1) (I R.2.1.2)).drew):=
   ((h8.setCell (p:=(ad w.1.size 0)) rl _).setCell (p:=(ad w.1.size 1)) rl _).drew
  have hG:W.grownBy (((W.setCell (ad w.1.size 0) (I R.2.1.1)).setCell (ad w.1.size 1) (I R.2.1.2)).drew) (some w.1.size):=
   ⟨z,z,z,by simp[World.setCell,World.drew],fun k hk X=> (FK _ (ad w.1.size 1) _ k (fun e=>X (by rw[e]))).trans (FK _ (ad w.1.size 0) _ k (fun e=>X (by rw[e])))⟩
  have g7:=b4.kept hG (by
   rcases b4.2 with ⟨rfl,_⟩|⟨g,cap,l2,rfl,hb,k8,_⟩
   .exact .inl z
   .refine .inr fun e'=>?_;have:g=w.1.size:=by simpa [GF]using e'
    omega)
  generalize ((W.setCell (ad w.1.size 0) (I R.2.1.1)).setCell (ad w.1.size 1) (I R.2.1.2)).drew=Wf at *;refine⟨by simp,.inl ⟨_,_,z,run_takeDeferred d4,?_⟩⟩;have Q1:Ps (Wf.putObj D (.deferred none)) w.1.size (R.2.1.1,R.2.1.2):=(HB (Ne.symm X)).trans Q0;have e0:=Q1.c0;have e1:=Q1.c1;refine⟨_,by simp[results,f29,go_sem,e0,e1],⟨v,z,?_,?_⟩⟩
  .exact ip (ownsRow_putObj g7 _ d4 z) (by omega)
  .exact f4.trans (belowK_b (w:=w) rl Wf D _ _ (by omega) d4 z z)
 clear H;have e5:w.1.size+4<=M.1.size:=by omega
 have a6:∀j∈ [b,gk,gs,A.1.size,7],j<M.1.size:=by intro j N;have h1:=a4.er.1;simp only[FQ,FO,or_false]at N;omega
 have b8:∀ (g n:Nat) (D:DataW Unit),M.ownsMap prog 9 (GO prog 3) g n D->g≠w.1.size+1:=fun g n D U e=>by
  let ⟨acc,v,_,_,_,hx,_⟩:=b6.ex
  let ⟨es,i8,Z,_⟩:=U
  rw[e,show M.1[w.1.size+1]? =_ from hx]at Z;cases Z
 have f9:∀j∈ [b,gk,gs,A.1.size,7],j≠w.1.size+1:=by intro j N;have k1:=b8 _ _ _ a4.Fc;have k2:=b8 _ _ _ a4.Fb;simp only[FQ,FO,or_false]at N;omega
 clear b8;let ⟨i0,f8,e9,i2,h9⟩:=info_parts sU
 apply (wpIn_wide (n:=n)).1;refine hP (F:=Fence.wide) z h1 (gf:=103) (lb:= #[Pt A.1.size]) z trivial (enters_of func103 (by kernel_rfl) z)
  (rs (n-1) (by omega) a4 (FX _) (by omega)) (by omega) ?hL (fun _=>z)
  (vd w M.1.size s R) (fun c W=>c= .exit 0/\AK w R W) ?hI ?hIx ?hIb ?hIxb b6 ?round ?done ?stop
 case hL=>exact a6
 case hI=>exact fun s' a3 B row E U V=>E.kept U (fun r e=>⟨by have:=(V r e).1;omega,.inr (V r e).2⟩)
 case hIx=>exact fun c s' a3 B row E U V=>⟨E.1,E.2.kept U (fun r e=>by have:=(V r e).1;omega)⟩
 case hIb=>exact fun k a3 B E hk=>E.kept hk.Er (fun r e=>by cases e;exact⟨by omega,.inl (by omega)⟩)
 case hIxb=>exact fun c a3 B E hk=>⟨E.1,E.2.kept hk.Er (fun r e=>by cases e;omega)⟩
 case round=>
  clear hT b6;intro l k W C a7;rw[show yZ s k= #[.agg #[I (gr s (aY s k)).kind,.string (gr s (aY s k)).text,I (gr s (aY s k)).num,I (gr s (aY s k)).line,I (gr s (aY s k)).Dm],I (dj s (aY s k))] from z];generalize ht:gr s (aY s k)=t;generalize e3:dj s (aY s k)=er;have HT:=O ht;have a0:=O e3;clear ht e3;gi_wp2;refine⟨KeepsOthers.alloc _ _,fun j N=>Iu _ _ _ ?_,fun W2=>vd w M.1.size s R k W2/\Tk W2 W.1.size t.kind t.text t.num (t.line,t.Dm),?_,⟨?_,?_⟩,?_⟩
  .exact FJ (a6 j N) C.sz
  .intro s' a3 B row E U V;refine⟨E.1.kept U (fun r e=>⟨by have:=(V r e).1;omega,.inr (V r e).2⟩),E.2.of (U.block _ E.2.lt (fun e=>?_))⟩;let ⟨_,o,ho,hc⟩:=V _ e.symm
   rw[E.2]at ho;cases ho;cases hc
  .exact C.kept (World.grownBy_alloc _ _ none) (fun r e=>by cases e)
  .exact Df _ _
  rintro W2 ⟨G,J⟩;let ⟨acc,v,g1,g2,g3,g4,g5⟩:=G.ex
  have k6:=iV s k;have j6:=J.c0;have t1:=J.c1;have t2:=J.c2;have t3:=J.c3;have t4:=J.c4;have c1:=g4.cell;have f1:=g4.frozen;by_cases he:er=0
  .subst he;have i6:=hf a7 a0;have g8:=iq a7;have l6:ea s (du s (aY s k)) (acc++[t])=R:=by rw[<-HT.o];exact(hW a7 a0).trans g1
   have e4:=O l6;have e6:=fun w1 v' o b4 c9=>G.push (w1:=w1) (v':=v') (o:=o) e5 g4 g5 b4 c9 l6 (by omega) g8;have f5:=O e6;have HL:=O (And.intro g2 g3);clear l6 e6 g1 g2 g3;gi_wp2_with (gi_at_builtin;refine wpListIn_append_own _ z (.tmp 24) (.tmp 26) 79 z M.1.size 142 i0 (.agg #[I 0,.string ⟨#[]⟩,I 0,I 0,I 0]) 5 48 qh f8 e9 i2 h9 z (by decide) v acc.length (acc.flatMap Wd.cells) z (g5.alloc _) (ad W2.1.size 0) 1 1 t.cells z z ?c2 ?c3 ?c4 ?c5 ?c6 ?_);case c2=>exact fun j u h=>h
   case c3=>simp[Wd.cells,Value.oneCell']
   case c4=>have:=HL.o;unfold maxLen;omega
   case c5=>have:=HL.o;omega
   case c6=> have:=G.sz;simp;omega
   intro v' w1 d8 c9 _;obtain⟨g,cap,rfl⟩:=ownsRow_succ d8;let ⟨d6,h7,f6,g6⟩:=f5 _ _ _ d8 c9
   have d1:=d6.cell;have e1:=d6.frozen;gi_wp2;refine⟨f6,g6 _ (fun j N=>⟨FJ (a6 j N) G.sz,f9 j N,a6 j N⟩),a0,h7⟩
  .have X:(er==0)=false:=by rw[beq_eq_false_iff_ne];exact he
   have l3:(er !=0)=true:=by rw[bne_iff_ne];exact he
   have e4:R=([],(t.line,t.Dm),er):=by have Z:=gH (s:=s) (k:=k) (acc:=acc) a7 (by rw[a0.o];exact he);rw[g1]at Z;rw[Z,<-HT.o,a0.o];rfl
   gi_wp2_with fail;have j2:=G.b2.cell;have i7:=G.b2.frozen;have j0:=G.b3.c0;have j1:=G.b3.c1;have j3:=G.b3.frozen 0;have j8:=G.b3.frozen 1;have f7:prog.follows .mixedOrders=true:=by kernel_rfl
   have i9:=FU e5 C.sz;apply hZ [5] (fun A=>Tk A W.1.size t.kind t.text t.num (t.line,t.Dm)) f7 (by kernel_rfl) (fun h=>by let ⟨_,_,h⟩:=h;exact h);refine tb 0 J ?_;refine tg _ 1 J (fun A d9=>And.intro (d9.c3) (d9.c4)) ?_;refine tb 2 J ?_;refine tn 3 fun S H=>?_;go_simp;refine H _ _ (fun _=>J.other (by omega) _ _) ?_;refine tn 4 fun S H=>?_;go_simp;refine H _ _ (fun _=> ((J.other (r:=w.1.size+1) (by omega) 0 (.slice none 0 0)).other (r:=w.1.size+1+1+1) (by omega) 0 (I t.line)).other (r:=w.1.size+1+1+1) (by omega) 1 (I t.Dm)) ?_;refine tn 5 fun S H=>?_;go_simp;refine H _ _ nofun ?_;refine dn ?_;gi_wp2;have g9:=e4;subst g9
   have B1:=(zJ (k:=0) (u:=I er) (zJ (k:=1) (u:=I t.Dm) (zJ (k:=0) (u:=I t.line) (g4.set (.slice none 0 0)) (r:=w.1.size+1+1+1) (by omega)) (r:=w.1.size+1+1+1) (by omega)) (r:=w.1.size+1+1) (by omega));have B2:=(zJ (k:=1) (u:=I t.Dm) (zJ (k:=0) (u:=I t.line) (zJ (k:=0) (u:= .slice none 0 0) G.b2 (r:=w.1.size+1) (by omega)) (r:=w.1.size+1+1+1) (by omega)) (r:=w.1.size+1+1+1) (by omega)).set (I er);have B3:=(((G.b3.other (b':=w.1.size+1) (by omega) 0 (.slice none 0 0)).set0 t.line).set1 t.Dm).other (b':=w.1.size+1+1) (by omega) 0 (I er)
   have B0:=(((G.b0.other (b':=w.1.size+1) (by omega) 0 (.slice none 0 0)).other (b':=w.1.size+1+1+1) (by omega) 0 (I t.line)).other (b':=w.1.size+1+1+1) (by omega) 1 (I t.Dm)).other (b':=w.1.size+1+1) (by omega) 0 (I er);have BL:=(((G.bl.setCell (p:=(ad (w.1.size+1) 0)) (by simp) (.slice none 0 0)).setCell (p:=(ad (w.1.size+1+1+1) 0)) (by simp;omega) (I t.line)).setCell (p:=(ad (w.1.size+1+1+1) 1)) (by simp;omega) (I t.Dm)).setCell (p:=(ad (w.1.size+1+1) 0)) (by simp;omega) (I er);refine⟨((((Ib _ _ _).trans (Ib _ _ _)).trans (Ib _ _ _)).trans (Ib _ _ _)).trans (KeepsOthers.drew _),z,⟨B1,B2,B3,B0,BL.drew,z⟩⟩
 .intro D k W hD f2 C a1;let ⟨acc,v,h1,Z,h3,h4,h5⟩:=C.ex
  have e7:=(fi f2).symm.trans h1;subst e7;exact hT D W v hD a1 h4 C.b2 C.b3 C.b0 h5 C.bl
 .rintro D c W hD ⟨rfl,C⟩ a1;apply wpIn_exit;refine hT D W _ hD a1 C.b1 C.b2 C.b3 C.b0 ?_ C.bl;rw[C.nl];exact HF _ _ _ _
theorem sR(s:ByteArray)(w:Fk)(D:65536<s.size):Calls prog 29 #[.string s] w (pJ w ([],(0,0),3)):=by
 have E:(65536:Int)< (s.size:Int):=by omega
 have g:Ps (w.alloc (.cells #[I 0,I 0] 32)) w.1.size (0,0):=Df _ _;have A:bL w (w.alloc (.cells #[I 0,I 0] 32)):=(FB _ w).alloc rl _;go_in;go_wp2;apply wp_scope_straight;go_wp2;have C:=g.c0;have j:=g.c1;refine bodyPost_ret (v:= .tuple #[.slice none 0 0,.agg #[I 0,I 0],I 3]) (by simp[results,f29,go_sem,C,j]) z ⟨_,z,HF _ _ _ _,?_⟩;exact A
theorem wi(s:ByteArray)(w:Fk)(g:gc w):Calls prog 29 #[.string s] w (pJ w (cm s)):=by
 unfold cm;by_cases h:65536<s.size
 .rw[aD h];exact sR s w h
 .rw[am h];exact(callsIn_wide (n:=9)).1 (yx 9 (by decide) s w (by omega) g)
structure hp (w:Fk) (s:ByteArray) (R:List Wd× (Int×Int)×Int) (e k:Nat) (acc:List Wd) (v:Fr) (W:Fk):Prop where
 lx:ea s e acc=R
 ln:acc.length<=k
 le:k<=s.size
 ow:W.ownsRow (w.1.size+2) 142 5 v acc.length (acc.flatMap Wd.cells)
 b1:Ps W (w.1.size+1) (ao s k)
 b0:Ps W w.1.size (0,0)
 bl:Below w.1.size w W
 sz:w.1.size+2<=W.1.size
theorem sa{B:Nat}{w':Fk}{l:List Wd}(h:w'.ownsRow B 142 5 v l.length (l.flatMap Wd.cells)):oz w' (match v with| .slice a _ _=>a|_=>none) l:=by
 intro i A;have K:∀l:List Wd,(l.flatMap Wd.cells).length=l.length*5:=fun l=>by
  induction l with
  |nil=>rfl
  |cons t r D=> rw[List.flatMap_cons,List.length_append,D,FV];simp[Wd.cells];omega
 have E:∀ (l:List Wd) (i:Nat),i<l.length->∀j,j<5->(l.flatMap Wd.cells)[i*5+j]? =(l.getD i default).cells[j]? :=by
  intro l;induction l with
  |nil=>intro i A;cases A
  |cons t r D=>
   intro i A j C;rw[List.flatMap_cons];cases i with
   |zero=>
    rw[List.getElem?_append_left (by simp[Wd.cells];omega)];simp
   |succ i=> rw[List.getElem?_append_right (by simp[Wd.cells];omega)];have G:t.cells.length=5:=z;rw[G,show (i+1)*5+j-5=i*5+j by omega];exact D i (by simpa using A) j C
 rcases h.2 with ⟨_,J⟩|⟨g,cap,H,rfl,_⟩
 .omega
 .have w:=fun j C=> (h.cells (g:=g) z) (i*5+j) _ (((E l i A j C).trans (FC (show j< (l.getD i default).cells.length from C))));have F:∀j,((ad g 0):Addr).add j=(ad g (0+j)):=fun j=>by unfold Addr.add;split<;>simp_all
  simp only[F]at w;exact⟨g,0,z,w 0 (by decide),w 1 (by decide),w 2 (by decide),w 3 (by decide),w 4 (by decide)⟩
structure ur (l:List Wd) (a:Option Addr) (cap:Nat) (w':Fk):Prop where
 Ec:oz w' a l
 lc:l.length<=cap
 mx:cap<=maxLen
theorem oz.below{w':Fk}{B:Nat}{l:List Wd}(h:oz w a l)(H:Below B w w')(G:w.1.size<=B):oz w' a l:=by intro i A;obtain⟨b,J,rfl,j,K,E,D,C⟩:=h i A;have F:=World.block_lt_of_cell? w _ j;have g:=fun o=>H.cell (p:=(ad b o)) (FJ F G);exact⟨b,J,z,(g _).trans j,(g _).trans K,(g _).trans E,(g _).trans D,(g _).trans C⟩
theorem ur.below{w':Fk}{l:List Wd}{cap:Nat}(h:ur l a cap w)(g:bL w w'):ur l a cap w':=⟨h.Ec.below g rl,h.lc,h.mx⟩
theorem oz.alloc{l:List Wd}(h:oz w a l)(o:Obj):oz (w.alloc o) a l:=h.below ((FB _ w).alloc rl o) rl
theorem uw:∀n k acc,s.size-k<=n->acc.length<=k->k<=s.size->(ea s k acc).1.length<=s.size:=by
 intro n;induction n with
 |zero=>
  intro k acc A w j;rw[fi (by have:=iV s k;omega)];exact FU w j
 |succ n C=>
  intro k acc A w j;by_cases h:aY s k<s.size
  .by_cases g:dj s (aY s k)=0
   .have F:=jM h g;have E:=hf h g;have D:=iq h;have G:=iV s k;rw[<-hW h g];exact C _ _ (by omega) (by simp;omega) D
   .rw[gH h g];exact FX _
  .rw[fi h];exact FU w j
theorem kF(s:ByteArray):(cm s).1.length<=65536:=by
 unfold cm;split
 .exact FX _
 .exact FU (uw _ 0 [] rl rl (FX _)) (by omega)
theorem rV:∀n k acc,s.size-k<=n->∀t∈ (ea s k acc).1,t∈acc∨∃p,p<s.size/\dj s p=0/\t=gr s p:=by
 intro n;induction n with
 |zero=>
  intro k acc C t g;rw[fi (by have:=iV s k;omega)]at g;exact .inl g
 |succ n D=>
  intro k acc C t g;by_cases h:aY s k<s.size
  .by_cases j:dj s (aY s k)=0
   .have E:=jM h j;rw[<-hW h j]at g;rcases D _ _ (by omega) t g with w|w
    .rcases List.mem_append.1 w with A|A
     .exact .inl A
     .exact .inr ⟨_,h,j,by simpa using A⟩
    .exact .inr w
   .rw[gH h j]at g;cases g
  .rw[fi h]at g;exact .inl g
theorem kD{t:Wd}(g:t∈ (cm s).1):∃p,p<s.size/\dj s p=0/\t=gr s p:=by
 unfold cm at g;split at g
 .cases g
 .rcases rV _ 0 [] rl t g with h|h
  .cases h
  .exact h
theorem vr(t:List UInt8):0<=(fD t).1/\(fD t).1<=2147483647:=by
 unfold fD;split
 .exact⟨by decide,by decide⟩
 .rename_i h;constructor
  .show (0:Int)<=((fv 0 t:Nat):Int);omega
  .show ((fv 0 t:Nat):Int)<=2147483647;omega
theorem xf(s:ByteArray)(p:Nat):0<=hI s p/\hI s p<=2147483647:=by
 unfold hI;split
 .exact⟨by decide,by decide⟩
 split
 .split
  .exact⟨by decide,by decide⟩
  .exact vr _
 .exact⟨by decide,by decide⟩
theorem oZ(s:ByteArray)(i:Nat):0<=((cm s).1.getD i default).num/\((cm s).1.getD i default).num<=2147483647:=by
 by_cases h:i< (cm s).1.length
 .rw[FD,FC h];obtain⟨p,-,-,g⟩:=kD (List.getElem_mem h);show 0<=((cm s).1[i]).num/\((cm s).1[i]).num<=2147483647;rw[g];exact xf s p
 .rw[FD,List.getElem?_eq_none (by omega)];exact⟨by decide,by decide⟩
def mg(s:ByteArray):Nat->Nat->Nat
 |0,k=>ae ct s k
 |n+1,k=>if ae ct s k<s.size/\(aO s (ae ct s k)).toNat=35 then mg s n (ae bu s (ae ct s k)) else ae ct s k
theorem uK(s:ByteArray):∀n k,s.size-k<=n->mg s n k=aY s k:=by
 intro n;induction n with
 |zero=>
  intro k j;have g:=dB ct s k;exact(es (fun h=>by have:=h.1;omega)).symm
 |succ n w=>
  intro k j;have g:=dB ct s k;unfold mg;by_cases h:ae ct s k<s.size/\(aO s (ae ct s k)).toNat=35
  .have A:=io h.1 h.2;rw[aD h,w _ (by omega),it h.1 h.2]
  .rw[am h,es h]
def uN(s:ByteArray):Nat->Nat->List Wd->List Wd× (Int×Int)×Int
 |0,_,acc=> (acc,(0,0),0)
 |n+1,k,acc=>if mg s s.size k<s.size then (if dj s (mg s s.size k)=0 then uN s n (du s (mg s s.size k)) (acc++[gr s (mg s s.size k)]) else ([],ao s (mg s s.size k),dj s (mg s s.size k))) else (acc,(0,0),0)
theorem vp(s:ByteArray):∀n k acc,s.size-k<n->uN s n k acc=ea s k acc:=by
 intro n;induction n with
 |zero=>intro k acc A;omega
 |succ n w=>
  intro k acc A;have j:=uK s s.size k (by omega);unfold uN;rw[j];by_cases h:aY s k<s.size
  .rw[aD h];by_cases g:dj s (aY s k)=0
   .have C:=jM h g;rw[aD g,w _ _ (by omega),hW h g]
   .rw[am g,gH h g]
  .rw[am h,fi h]
theorem qs{R:List Wd× (Int×Int)×Int}(n:Nat)(j:s.size<=65536)(g:s.size<n)(h:uN s n 0 []=R):cm s=R:=by unfold cm;rw[am (by omega),<-vp s n 0 [] (by omega)];exact h
end Go.Proofs.YtgppcdfgdaggjaaGreatDoor
