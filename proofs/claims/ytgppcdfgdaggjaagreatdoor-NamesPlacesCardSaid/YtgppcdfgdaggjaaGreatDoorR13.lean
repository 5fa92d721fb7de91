/- Texts laid together. No condition but what each law says. -/
import Derived.Test.YtgppcdfgdaggjaaGreatDoorR12
import Derived.WalkMore
set_option maxRecDepth 100000
set_option maxHeartbeats 4000000
namespace Go.Proofs.YtgppcdfgdaggjaaGreatDoor
open Go.RowKit Go.Maps Go.Shelf
variable {V W w w1:World}{b c g j k n n0 n5:Nat}{s:ByteArray}{u v v0 v1:Value}{a:Option Addr}
theorem words_any(b:Nat)(w:World):Calls Tryz.prog 60 #[Pt b] w fun e w'=>e= .returned (.func (.func 103) #[] #[Pt w.1.size])/\w'=w.alloc (.cells #[Pt b] 145):=by go_in;go_wp2;go_ret;exact⟨z,z⟩
def SameL(L:List Nat)(W W':World):Prop:=∀j∈L,W'.1[j]? =W.1[j]?
theorem SameL.trans{L:List Nat}{B C:World}(h:SameL L w B)(A:SameL L B C):SameL L w C:=fun j g=> (A j g).trans (h j g)
theorem SameL.put{L:List Nat}{l:Nat}(o:Obj)(w:∀j∈L,j<l):SameL L W (W.putObj l o):=fun j g=>World.putObj_heap_other (by have:=w j g;omega)
def rdPost(L:List Nat)(ok:Nat->Prop)(nxt:Nat->Nat)(I:Nat->World->Prop)(Ix:Code->World->Prop)(k:Nat)(W:World):Exit->Act->World->Prop
 | .normal,_,W'=>KeepsOthers W W'/\SameL L W W'/\ok k/\I (nxt k) W'
 | .ret,_,W'=>KeepsOthers W W'/\Ix .ret W'
 | .exit id,_,W'=>KeepsOthers W W'/\Ix (.exit id) W'
 | .goto t,_,W'=>KeepsOthers W W'/\Ix (.goto t) W'
 | .panic _,_,_=>False
 | .outgrown,_,_=>False
def ItRun(F:Fence)(n:Nat)(P:Program)(gf:Nat)(lb:Array Value)(encs:Nat->Array Value)(b:Nat)(L:List Nat)(bd ok fin:Nat->Prop)(nxt:Nat->Nat)(k0:Nat)(w:World):Prop:=
 ∀ (l:Nat) (J:Nat->World->Prop) (Jx:World->Prop) (W:World),SameL L w W->
  (∀k A B,J k A->Kp A B b b->J k B)->(∀A B,Jx A->Kp A B b b->Jx B)->
  (∀k A,J k A->bd k->YieldAt F (n-1) P l (encs k) A fun e B=> (e= .returned (.bool true)/\J (nxt k) B/\SameL L A B/\A.1.size<=B.1.size/\ok k)∨(e= .returned (.bool false)/\Jx B))->
  J k0 W->CallsIn F n P gf (#[.func (.yield l) #[] #[]]++lb) W fun e B=> (∃v,e= .returned v)/\((∃k,fin k/\J k B)∨Jx B)
theorem wpIn_rangeFunc_rd{F:Fence}{P:Program}{g:Operand}{ps:Array Tmp}{assign body:Code}{Q:Exit->Act->World->Prop}{a:Act}
  (hro:F.round=none)(h1:1<=n){gf:Nat}{lb:Array Value}(hg:a.eval g= .func (.func gf) #[] lb)(hFg:F.fn gf)(eg:∀args w,(callFunc gf args).run P w= .ok (.enter gf args) w)
  {encs:Nat->Array Value}{L:List Nat}{bd ok fin:Nat->Prop}{nxt:Nat->Nat}{k0:Nat}
  (hseq:ItRun F (n-1) P gf lb encs b L bd ok fin nxt k0 w)(hb:b<w.1.size)(hL:∀j∈L,j<w.1.size)(hps:∀x,(encs x).size=ps.size)
  (I:Nat->World->Prop)(Ix:Code->World->Prop)(hI:OwnFrom w.1.size I)(hIx:∀c,OwnFrom w.1.size (fun (_:Unit)=>Ix c))
  (hIb:∀k A B,I k A->Kp A B b b->I k B)(hIxb:∀c A B,Ix c A->Kp A B b b->Ix c B)(h0:I k0 w)
  (hround:∀ (l:Nat) (k:Nat) (W:World),I k W->bd k->
   assign.wpIn (F.inRound l) (n-1-1) P (Exit.then (fun a' W'=>KeepsOthers W W'/\SameL L W W'/\∃M:World->Prop,OwnFrom w.1.size (fun (_:Unit)=>M)/\M W'/\∀W2,M W2->body.wpIn (F.inRound l) (n-1-1) P (rdPost L ok nxt I Ix k W2) a' W2) (fun _ _ _=>False))
    {tmps:=(ps.zip (encs k)).foldl (fun t (p,v)=>t.setIfInBounds p v) a.tmps,defers:=[]} W)
  (hdone:∀ (D:Nat) (k:Nat) (W:World),w.1.size<=D->fin k->I k W->W.1[D]? =some (.deferred (some []))->Q .normal {a with defers:={target:= .collected D,args:= #[]}::a.defers} W)
  (hstop:∀ (D:Nat) (c:Code) (W:World),w.1.size<=D->Ix c W->W.1[D]? =some (.deferred (some []))->c.wpIn F n P Q {a with defers:={target:= .collected D,args:= #[]}::a.defers} W):
  (Code.rangeFunc g ps assign body).wpIn F n P Q a w:=by
 refine wpIn_rangeFunc ?_;intro fn hfn;rw[hro];obtain⟨rec,hrec⟩:∃rec:LoopState->Option Code->Loop,rec=fun st pe=> {state:=st,pending:=pe,fn:=fn,tmps:=a.tmps,params:=ps,assign:=assign,body:=body,defers:=w.1.size}:=⟨_,z⟩;obtain⟨W1,hW1⟩:∃W1,(w.alloc (.deferred (some []))).alloc (.loop (rec .ready none))=W1:=⟨_,z⟩;have hL1:W1.1[w.1.size+1]? =some (.loop (rec .ready none)):=by rw[<-hW1];have:=World.alloc_heap_new (w.alloc (.deferred (some []))) (.loop (rec .ready none));rwa [World.size_alloc]at this
 have hK1:W1.1[w.1.size]? =some (.deferred (some [])):=by rw[<-hW1];exact(Below.heap_alloc _ _ _ (by simp)).trans (World.alloc_heap_new w _)
 have hI1:I k0 W1:=by rw[<-hW1];exact hI.alloc _ (hI.alloc _ h0)
 have hS1:SameL L w W1:=by rw[<-hW1];intro j hj;have:=hL j hj;exact(Below.heap_alloc _ _ _ (by simp;omega)).trans (Below.heap_alloc _ _ _ this)
 refine⟨w.1.size+1,[{target:= .collected w.1.size,args:= #[]}],W1,{target:= .fn (.func gf) lb,args:= #[.func (.yield (w.1.size+1)) #[] #[]]},W1,gf,
  #[.func (.yield (w.1.size+1)) #[] #[]]++lb,W1,?_,?_,?_,?_,fun _=>h1,?_⟩
 .rw[<-hW1,hrec];exact run_enterLoop_outer _ _ _ _ _
 .simp only[resolve,hg];simp[go_sem]
 .intro f' hf';simp[Target.leads]at hf';subst hf';exact hFg
 .simp[invoke,go_sem,eg]
 .have kpb:∀ {A B:World} {r:Nat} {o:Obj},Kp A B b b->w.1.size<=r->A.1[r]? =some o->B.1[r]? =some o:=fun hk hr ho=> (hk.block _ (Array.getElem?_eq_some_iff.1 ho).1 (by omega) (by omega)).trans ho;refine(hseq (w.1.size+1)
   (fun k W=>I k W/\W.1[w.1.size+1]? =some (.loop (rec .ready none))/\W.1[w.1.size]? =some (.deferred (some [])))
   (fun W=>∃c,Ix c W/\W.1[w.1.size+1]? =some (.loop (rec .done (some c)))/\W.1[w.1.size]? =some (.deferred (some [])))
   W1 hS1
   (fun k A B hs hk=>⟨hIb k A B hs.1 hk,kpb hk (Nat.le_succ _) hs.2.1,kpb hk (Nat.le_refl _) hs.2.2⟩)
   (fun A B hs hk=>by obtain⟨c,hc,hl,hkk⟩:=hs;exact⟨c,hIxb c A B hc hk,kpb hk (Nat.le_succ _) hl,kpb hk (Nat.le_refl _) hkk⟩)
   ?_ ⟨hI1,hL1,hK1⟩).mono ?_
  .rintro x W ⟨hi,hl,hk⟩ hbd;have hy:=run_yield (P:=P) (args:=encs x) hl (by rw[hrec];exact hps x);rw[hrec]at hy;refine⟨fn,_,assign,body,hy,roundIn_of_wpIn hfn (wpIn_mono (hround _ x W hi hbd) ?_)⟩;rintro e0 a0 W0 hp0;cases e0<;>first|exact hp0.elim|skip
   obtain⟨hk0,hs0,M,hM,hm,hB⟩:=hp0;have hl0:=hk0.same _ _ hl z;have hkk0:=hk0.same _ _ hk z;have hlt:w.1.size+1<W0.1.size:=(Array.getElem?_eq_some_iff.1 hl0).1;refine⟨_,run_beginRound hl0 (by rw[hrec]),?_⟩;have hl2:(W0.putObj (w.1.size+1) (.loop {rec .ready none with state:= .busy})).1[w.1.size+1]? =some (.loop {rec .ready none with state:= .busy}):=World.putObj_heap_same hlt;have hk2:(W0.putObj (w.1.size+1) (.loop {rec .ready none with state:= .busy})).1[w.1.size]? =some (.deferred (some [])):=(World.putObj_heap_other (by omega)).trans hkk0;have hw2:SameL L W (W0.putObj (w.1.size+1) (.loop {rec .ready none with state:= .busy})):=hs0.trans (SameL.put _ (fun j hj=>by have:=hL j hj;omega))
   refine wpIn_mono (hB _ (hM.putObj (s:=()) _ hm (Nat.le_succ _) hl0 z)) ?_;have fin:∀ (jump:Option Code) (W3:World),KeepsOthers (W0.putObj (w.1.size+1) (.loop {rec .ready none with state:= .busy})) W3->
     (Instr.endRound (w.1.size+1) jump).run P W3= .ok (.bool jump.isNone) (W3.putObj (w.1.size+1) (.loop (rec (if jump.isNone then .ready else .done) jump)))/\
     W3.1[w.1.size+1]? =some (.loop {rec .ready none with state:= .busy})/\
     (W3.putObj (w.1.size+1) (.loop (rec (if jump.isNone then .ready else .done) jump))).1[w.1.size+1]? =some (.loop (rec (if jump.isNone then .ready else .done) jump))/\
     (W3.putObj (w.1.size+1) (.loop (rec (if jump.isNone then .ready else .done) jump))).1[w.1.size]? =some (.deferred (some [])):=fun jump W3 hk3=>by
    have hl3:=hk3.same _ _ hl2 z;have:=run_endRound (P:=P) jump hl3;rw[hrec]at this ⊢;exact⟨this,by rw[hrec]at hl3;exact hl3,World.putObj_heap_same (Array.getElem?_eq_some_iff.1 hl3).1,(World.putObj_heap_other (by omega)).trans (hk3.same _ _ hk2 z)⟩
   rintro e a3 W3 hp;cases e with
   |normal=>
    obtain⟨hk3,hkp3,hok3,hi3⟩:=hp;obtain⟨hr,hl3,hl4,hk4⟩:=fin none W3 hk3;refine⟨_,_,hr,.inl ⟨z,⟨hI.putObj _ hi3 (Nat.le_succ _) hl3 z,hl4,hk4⟩,(hw2.trans hkp3).trans (SameL.put _ (fun j hj=>by have:=hL j hj;omega)),?_,hok3⟩⟩;have:=hk3.size;have:=hk0.size;simp at *;omega
   |ret=>
    obtain⟨hk3,hi3⟩:=hp;obtain⟨hr,hl3,hl4,hk4⟩:=fin (some .ret) W3 hk3;exact⟨_,_,hr,.inr ⟨z,.ret,(hIx _).putObj (s:=()) _ hi3 (Nat.le_succ _) hl3 z,hl4,hk4⟩⟩
   |exit id=>
    obtain⟨hk3,hi3⟩:=hp;obtain⟨hr,hl3,hl4,hk4⟩:=fin (some (.exit id)) W3 hk3;exact⟨_,_,hr,.inr ⟨z,.exit id,(hIx _).putObj (s:=()) _ hi3 (Nat.le_succ _) hl3 z,hl4,hk4⟩⟩
   |goto t=>
    obtain⟨hk3,hi3⟩:=hp;obtain⟨hr,hl3,hl4,hk4⟩:=fin (some (.goto t)) W3 hk3;exact⟨_,_,hr,.inr ⟨z,.goto t,(hIx _).putObj (s:=()) _ hi3 (Nat.le_succ _) hl3 z,hl4,hk4⟩⟩
   |panic ch=>exact hp.elim
   |outgrown=>exact hp.elim
  .rintro e W2 ⟨⟨v,rfl⟩,(⟨k,hS,hi,hl,hk⟩|⟨c,hi,hl,hk⟩)⟩
   .exact⟨none,_,by have:=run_endLoop (P:=P) hl (by rw[hrec];simp);rw[hrec]at this;exact this,hdone _ k _ (Nat.le_refl _) hS (hI.putObj _ hi (Nat.le_succ _) hl z) ((World.putObj_heap_other (by omega)).trans hk)⟩
   .exact⟨some c,_,by have:=run_endLoop (P:=P) hl (by rw[hrec];simp);rw[hrec]at this;exact this,hstop _ c _ (Nat.le_refl _) ((hIx c).putObj (s:=()) _ hi (Nat.le_succ _) hl z) ((World.putObj_heap_other (by omega)).trans hk)⟩
attribute [local go_sem] Oper.semAt_some
def tokV(s:ByteArray)(p:Nat):Value:= .agg #[.int .i64 (wKind s p),.string (s.extract p (wEnd s p)),.int .i64 (wNum s p),.int .i64 (posAt s p).1,.int .i64 (posAt s p).2]
abbrev encT (s:ByteArray) (k:Nat):Array Value:= #[tokV s (gapAt s k),.int .i64 (wErr s (gapAt s k))]
def posOf(w:World)(b:Nat):Nat:=match w.cell? ⟨b,3,none⟩ with
 |some (.int _ k)=>k.toNat
 |_=>0
theorem posOf_rd(h:Rd w b s k v0 v1):posOf w b=k:=by unfold posOf;rw[h.c3];simp
structure Rdy (w:World) (b gk gs c:Nat) (s:ByteArray) (k:Nat):Prop where
 rd:Rd w b s k (.map (some gk)) (.map (some gs))
 okw:w.ownsMap Tryz.prog 9 (plainElem Tryz.prog 3) gk 20 (Lst kwL 20)
 osg:w.ownsMap Tryz.prog 9 (plainElem Tryz.prog 3) gs 20 (Lst sgL 20)
 er:ErrR w
 bx:w.1[c]? =some (.cells #[.pointer (some ⟨b,0,none⟩)] 145 (0,0))
 n1:gk≠b
 n2:gs≠b
 n3:c≠b
 n4:b≠7
theorem ErrR.same{B:World}(h:ErrR w)(g:B.1[7]? =w.1[7]?):ErrR B:=by
 obtain⟨A,C,D,j⟩:=h;have E:B.1[7]? ≠none:=by rw[g,Array.getElem?_eq_getElem A];simp
 refine⟨?_,C,D,?_⟩
 .rcases Nat.lt_or_ge 7 B.1.size with h|h
  .exact h
  .exact absurd (Array.getElem?_eq_none h) E
 .unfold World.cell? at j ⊢;simp only[g];exact j
theorem owns_same{w':World}{D:DataW Unit}(h:w.ownsMap Tryz.prog 9 (plainElem Tryz.prog 3) g n D)(j:w'.1[g]? =w.1[g]?):w'.ownsMap Tryz.prog 9 (plainElem Tryz.prog 3) g n D:=by obtain⟨F,C,A,E⟩:=h;exact⟨F,C,j.trans A,E⟩
theorem Rdy.same{B:World}{gk:Nat}(h:Rdy w b gk j c s k)(g:SameL [b,gk,j,c,7] w B):Rdy B b gk j c s k:=
 ⟨h.rd.of (g b (by simp)),owns_same h.okw (g gk (by simp)),owns_same h.osg (g j (by simp)),h.er.same (g 7 (by simp)),(g c (by simp)).trans h.bx,h.n1,h.n2,h.n3,h.n4⟩
theorem Rdy.kp{B:World}{gk:Nat}(h:Rdy w b gk j c s k)(A:Kp w B b b)(C:Rd B b s g (.map (some gk)) (.map (some j))):Rdy B b gk j c s g:=
 ⟨C,owns_keep h.okw A h.n1 h.n1,owns_keep h.osg A h.n2 h.n2,h.er.same (A.block 7 h.er.1 (Ne.symm h.n4) (Ne.symm h.n4)),(A.block c (Array.getElem?_eq_some_iff.1 h.bx).1 h.n3 h.n3).trans h.bx,h.n1,h.n2,h.n3,h.n4⟩
theorem gap_ge(s:ByteArray)(k:Nat):k<=gapAt s k:=by
 suffices H:∀n k,s.size-k<=n->k<=gapAt s k from H _ k rl
 intro n;induction n with
 |zero=>
  intro k A;have g:=endOf_ge isBl s k;rw[gap_stop (fun h=>by have:=h.1;omega)];exact g
 |succ n w=>
  intro k A;have g:=endOf_ge isBl s k;by_cases h:endOf isBl s k<s.size/\(byte s (endOf isBl s k)).toNat=35
  .have C:=hash_on h.1 h.2;have j:=w (endOf isNoNl s (endOf isBl s k)) (by omega);rw[gap_hash h.1 h.2]at j;omega
  .rw[gap_stop h];exact g
theorem words1_in(n:Nat)(hn:1<=n){gk:Nat}(X:Rdy w b gk g c s j)(a9:j<=s.size)(M:s.size<=4294967296):
  ItRun Fence.wide n Tryz.prog 103 #[Pt c] (encT s) b [b,gk,g,c,7] (fun k=>gapAt s k<s.size) (fun k=>wErr s (gapAt s k)=0) (fun k=>¬gapAt s k<s.size) (fun k=>wEnd s (gapAt s k)) j w:=by
 intro l a4 Jx W U K d0 hY N;have Q:=X.same U;refine callsIn_of_wp Tryz.func103 z trivial ?_ z;simp only[Tryz.ntmps103,List.size_toArray,List.length_cons,List.length_nil,Nat.reduceAdd,Nat.reduceSub,Array.replicate_succ,Array.replicate_zero,List.push_toArray,List.append_toArray,List.nil_append,List.cons_append];gi_wp2_with fail;gi_loopw [] (fun wr=>∃k:Nat,k<=s.size/\a4 k wr/\Rdy wr b gk g c s k) (fun wr=>s.size+1-posOf wr b)
 .exact⟨j,a9,N,Q⟩
 .obtain⟨k,hk,V,D⟩:=hrel;have c0:wr.cell? ⟨c,0,none⟩=some (Pt b):=by simp[World.cell?,D.bx]
  have HP:=posOf_rd D.rd;gi_wp2_with fail;refine⟨trivial,CallsIn.mono (callsIn_wide.2 (gap_any D.rd hk M)) ?_⟩;rintro e W1 ⟨rfl,S,F,a3⟩;have A:=D.kp F S;have H:=K _ _ _ V F;obtain⟨p,E⟩:=eX (gapAt s k);have a6:=O E;have a8:=gap_ge s k;have J:=hY k;dsimp only[encT]at J;rw[E]at A a3 a8 J ⊢;have c1:W1.cell? ⟨c,0,none⟩=some (Pt b):=by simp[World.cell?,A.bx]
  by_cases C:p<s.size
  .have hd:=decide_eq_true C;rw[hd];gi_wp2_with fail;refine⟨trivial,CallsIn.mono (callsIn_wide.2 (word_any A.rd A.okw A.osg A.n1 A.n2 C M A.er A.n4)) ?_⟩;rintro e W2 ⟨rfl,R,G⟩;have b6:=A.kp G R;have b7:=K _ _ _ H G;obtain⟨fn,tmps,b9,body,hy,a7⟩:=J W2 b7 C;unfold tokV at hy;gi_wp2;apply a7.mono;rintro e W3 (⟨rfl,a2,b8,c9,a5⟩|⟨rfl,a1⟩)
   .have Y:=b6.same b8;have c8:=wEnd_gt C a5;have b4:=wEnd_le C;have b5:=posOf_rd Y.rd;gi_wp2;go_roundw
    .exact⟨wEnd s p,b4,a2,Y⟩
    .rw[HP,b5];omega
   .gi_wp2;refine bodyPost_ret (results_none z _ _ _) z ?_;exact⟨⟨_,z⟩,.inr a1⟩
  .have hd:=decide_eq_false C;rw[hd];gi_wp2;go_end0;exact⟨⟨_,z⟩,.inl ⟨k,by rw[a6.o];exact C,H⟩⟩
def tokW(s:ByteArray)(p:Nat):Wd:=⟨wKind s p,s.extract p (wEnd s p),wNum s p,(posAt s p).1,(posAt s p).2⟩
theorem lex_dec(h:gapAt s k<s.size)(g:wErr s (gapAt s k)=0):s.size-wEnd s (gapAt s k)<s.size-k:=by have w:=gap_ge s k;have j:=wEnd_gt h g;omega
def lexA(s:ByteArray)(k:Nat)(acc:List Wd):List Wd× (Int×Int)×Int:=
 if _h:gapAt s k<s.size then
  if _h2:wErr s (gapAt s k)=0 then lexA s (wEnd s (gapAt s k)) (acc++[tokW s (gapAt s k)]) else ([],posAt s (gapAt s k),wErr s (gapAt s k))
 else (acc,(0,0),0)
termination_by s.size-k
decreasing_by exact lex_dec _h _h2
theorem lexA_end{acc:List Wd}(h:¬gapAt s k<s.size):lexA s k acc=(acc,(0,0),0):=by rw[lexA.eq_def,dif_neg h]
theorem lexA_err{acc:List Wd}(h:gapAt s k<s.size)(g:¬wErr s (gapAt s k)=0):lexA s k acc=([],posAt s (gapAt s k),wErr s (gapAt s k)):=by rw[lexA.eq_def,dif_pos h,dif_neg g]
theorem lexA_on{acc:List Wd}(h:gapAt s k<s.size)(g:wErr s (gapAt s k)=0):lexA s (wEnd s (gapAt s k)) (acc++[tokW s (gapAt s k)])=lexA s k acc:=by rw[lexA.eq_def s k,dif_pos h,dif_pos g]
def lexR(s:ByteArray):List Wd× (Int×Int)×Int:=if 65536<s.size then ([],(0,0),3) else lexA s 0 []
structure Inv (w:World) (B0:Nat) (s:ByteArray) (R:List Wd× (Int×Int)×Int) (k:Nat) (W:World):Prop where
 ex:∃acc v,lexA s k acc=R/\acc.length<=k/\k<=s.size/\Boxed W (w.1.size+1) 79 v/\W.ownsRow B0 142 5 v acc.length (acc.flatMap Wd.cells)
 b2:Boxed W (w.1.size+1+1) 33 (.int .i64 0)
 b3:Ps W (w.1.size+1+1+1) (0,0)
 b0:Ps W w.1.size (0,0)
 bl:Below w.1.size w W
 sz:B0<=W.1.size
structure Ivx (w:World) (R:List Wd× (Int×Int)×Int) (W:World):Prop where
 b1:Boxed W (w.1.size+1) 79 (.slice none 0 0)
 b2:Boxed W (w.1.size+1+1) 33 (.int .i64 R.2.2)
 b3:Ps W (w.1.size+1+1+1) R.2.1
 b0:Ps W w.1.size (0,0)
 bl:Below w.1.size w W
 nl:R.1=[]
theorem Ps.kept{row:Option Nat}{p:Int×Int}(h:Ps W b p)(j:W.grownBy w row)(g:some b≠row):Ps w b p:=(j.block b h.lt g).trans h
theorem Inv.kept{R:List Wd× (Int×Int)×Int}{row:Option Nat}(h:Inv w j s R k W)(A:W.grownBy V row)
  (C:∀r,row=some r->w.1.size+4<=r/\(r<j∨∃o:Obj,W.1[r]? =some o/\o.isCells=false)):Inv w j s R k V:=by
 obtain⟨acc,v,G,J,F,H,D⟩:=h.ex;have ne:∀x,x<4->some (w.1.size+x)≠row:=fun x U e=>by have:=(C _ e.symm).1;omega
 refine⟨⟨acc,v,G,J,F,H.kept A (ne 1 (by decide)),D.kept A ?_⟩,h.b2.kept A (ne 2 (by decide)),h.b3.kept A (ne 3 (by decide)),h.b0.kept A (ne 0 (by decide)),h.bl.grown A h.bl.size (fun r e=>by have:=(C r e).1;omega),Nat.le_trans h.sz A.size⟩;rcases D.2 with ⟨rfl,_⟩|⟨g,cap,S,rfl,Q,K,_⟩
 .exact .inl z
 .refine .inr fun e'=>?_;rcases(C g (by simpa [Value.ownBlock]using e'.symm)).2 with N|⟨o,E,M⟩
  .omega
  .rw[K]at E;cases E;cases M
theorem Ivx.kept{R:List Wd× (Int×Int)×Int}{row:Option Nat}(h:Ivx w R W)(g:W.grownBy V row)(j:∀r,row=some r->w.1.size+4<=r):Ivx w R V:=by
 have ne:∀x,x<4->some (w.1.size+x)≠row:=fun x A e=>by have:=j _ e.symm;omega
 exact⟨h.b1.kept g (ne 1 (by decide)),h.b2.kept g (ne 2 (by decide)),h.b3.kept g (ne 3 (by decide)),h.b0.kept g (ne 0 (by decide)),h.bl.grown g h.bl.size (fun r e=>by have:=j r e;omega),h.nl⟩
theorem Kp.to_grown(h:Kp W w b b):W.grownBy w (some b):=⟨h.os,h.tape,h.output,h.size,fun k j g=>h.block k j (fun e=>g (by rw[e])) (fun e=>g (by rw[e]))⟩
theorem row_ne{e size:Nat}{xs:List Value}(h:W.ownsRow j e size v n xs)(g:b<j):some b≠v.ownBlock:=by intro e';have:=(h.lt b e'.symm).1;omega
theorem Inv.push{R:List Wd× (Int×Int)×Int}(h:Inv w n0 s R k W)(a0:w.1.size+4<=n0){acc:List Wd}{v':Value}{t:Wd}{o:Obj}
  (N:Boxed W (w.1.size+1) 79 v)(C:W.ownsRow n0 142 5 v acc.length (acc.flatMap Wd.cells))(K:w1.ownsRow n0 142 5 v' (acc.length+1) (acc.flatMap Wd.cells++t.cells))(A:(W.alloc o).grownBy w1 v.ownBlock)
  (S:lexA s n5 (acc++[t])=R)(V:acc.length+1<=n5)(Q:n5<=s.size):
  Boxed w1 (w.1.size+1) 79 v/\Inv w n0 s R n5 (w1.setCell ⟨w.1.size+1,0,none⟩ v')/\KeepsOthers W (w1.setCell ⟨w.1.size+1,0,none⟩ v')/\
   ∀L:List Nat,(∀j∈L,j<W.1.size/\j≠w.1.size+1/\j<n0)->SameL L W (w1.setCell ⟨w.1.size+1,0,none⟩ v'):=by
 have H:=(N.alloc o).kept A (row_ne C (by omega));have D:=grownBy_setCell' w1 (w.1.size+1) v';have ne:∀x y,x≠y->some (w.1.size+x)≠some (w.1.size+y):=fun x y Z e=>by have:=Option.some.inj e;omega
 refine⟨H,⟨⟨acc++[t],v',S,by simpa using V,Q,H.set v',?_⟩,?_,?_,?_,?_,?_⟩,?_,?_⟩
 .have E:=K.kept D (.inr (row_ne K (by omega:w.1.size+1<n0)).symm);simpa using E
 .exact((h.b2.alloc o).kept A (row_ne C (by omega))).kept D (ne 2 1 (by decide))
 .exact((h.b3.alloc o).kept A (row_ne C (by omega))).kept D (ne 3 1 (by decide))
 .exact((h.b0.alloc o).kept A (row_ne C (by omega))).kept D (ne 0 1 (by decide))
 .have Y:=h.bl.size;refine((h.bl.alloc Y o).grown A (by simp;omega) (fun r e=>?_)).setCell (p:=⟨w.1.size+1,0,none⟩) (Nat.le_succ _) v';have:=(C.lt r e).1;omega
 .have G:=A.size;have E:=D.size;have J:=h.sz;simp at G;omega
 .refine((KeepsOthers.alloc W o).trans (KeepsOthers.of_grownBy A fun j o' M F=>?_)).trans (KeepsOthers.setCell _ _ _);rcases(C.alloc o).2 with ⟨rfl,_⟩|⟨g,cap,a1,rfl,_,U,_⟩
  .simp[Value.ownBlock]at M
  .obtain rfl:g=j:=by simpa [Value.ownBlock]using M
   rw[U]at F;cases F;rfl
 .intro L X j F;obtain⟨G,E,J⟩:=X j F;exact(Below.heap_setCell w1 ⟨w.1.size+1,0,none⟩ v' j E).trans ((A.block j (by simp;omega) (row_ne C J)).trans (Below.heap_alloc W o j G))
def LPost(w:World)(R:List Wd× (Int×Int)×Int)(e:Ending)(w':World):Prop:=
 ∃v,e= .returned (.tuple #[v,.agg #[.int .i64 R.2.1.1,.int .i64 R.2.1.2],.int .i64 R.2.2])/\w'.ownsRow w.1.size 142 5 v R.1.length (R.1.flatMap Wd.cells)/\Below w.1.size w w'
theorem ownsRow_base{b' e size:Nat}{xs:List Value}(h:w.ownsRow b e size v n xs)(E:b'<=b):w.ownsRow b' e size v n xs:=by
 refine⟨h.1,?_⟩;rcases h.2 with A|⟨g,cap,D,C,F,j⟩
 .exact .inl A
 .exact .inr ⟨g,cap,D,C,by omega,j⟩
attribute [local go_sem] Oper.semAt_some
theorem under23:Tryz.prog.underlying 79=some (.slice 142):=by kernel_rfl
theorem info39:(Tryz.prog.info? 142).map (fun i=> (i.zero,i.size,i.bytes))=some (some (.agg #[I 0,.string ⟨#[]⟩,I 0,I 0,I 0]),5,48):=by kernel_rfl
theorem bxo{B r:Nat}{t:TypeId}(h:Boxed W B t v)(g:B≠r):Boxed (W.setCell ⟨r,k,none⟩ u) B t v:=(Below.heap_setCell W ⟨r,k,none⟩ u B g).trans h
theorem lex_in(n:Nat)(hn:4<=n)(s:ByteArray)(w:World)(E:s.size<=65536)(hE:ErrR w):
  CallsIn Fence.wide n Tryz.prog 29 #[.string s] w (LPost w (lexA s 0 [])):=by
 have h1:1<=n:=by omega
 have j7:¬ (65536:Int)< (s.size:Int):=by omega
 obtain⟨R,hR⟩:=eX (lexA s 0 []);have HR:=O hR;rw[hR];clear hR;refine callsIn_of_wp_marks Tryz.func29 z trivial ?_ z;simp only[Tryz.ntmps29,List.size_toArray,List.length_cons,List.length_nil,Nat.reduceAdd,Nat.reduceSub,Array.replicate_succ,Array.replicate_zero,List.push_toArray,List.append_toArray,List.nil_append,List.cons_append];refine wpIn_wide.2 ?_;go_wp2_with fail;apply wp_scope_straight;go_wp2_with fail;obtain⟨J,Q⟩:=eX ((((w.alloc (.cells #[.int .i64 0,.int .i64 0] 32)).alloc (.cells #[.slice none 0 0] 79)).alloc (.cells #[.int .i64 0] 33)).alloc (.cells #[.int .i64 0,.int .i64 0] 32));have j5:J.1.size=w.1.size+4:=by rw[<-Q];simp
 have d0:Ps J w.1.size (0,0):=by have h:Ps (w.alloc (.cells #[.int .i64 0,.int .i64 0] 32)) w.1.size (0,0):=World.alloc_heap_new _ _;rw[<-Q];exact((h.alloc _).alloc _).alloc _
 have c8:Boxed J (w.1.size+1) 79 (.slice none 0 0):=by have:=((Boxed.new (w.alloc (.cells #[I 0,I 0] 32)) 79 (.slice none 0 0)).alloc (.cells #[I 0] 33)).alloc (.cells #[I 0,I 0] 32);rw[Q]at this;simpa only[World.size_alloc]using this
 have b9:Boxed J (w.1.size+1+1) 33 (I 0):=by have:=(Boxed.new ((w.alloc (.cells #[I 0,I 0] 32)).alloc (.cells #[.slice none 0 0] 79)) 33 (I 0)).alloc (.cells #[I 0,I 0] 32);rw[Q]at this;simpa only[World.size_alloc]using this
 have d2:Ps J (w.1.size+1+1+1) (0,0):=by have h:Ps ((((w.alloc (.cells #[.int .i64 0,.int .i64 0] 32)).alloc (.cells #[.slice none 0 0] 79)).alloc (.cells #[.int .i64 0] 33)).alloc (.cells #[.int .i64 0,.int .i64 0] 32)) _ (0,0):=World.alloc_heap_new _ _;rw[Q]at h;simpa only[World.size_alloc]using h
 have b7:bL w J:=by rw[<-Q];exact((((Below.refl _ w).alloc rl _).alloc (by simp) _).alloc (by simp;omega) _).alloc (by simp;omega) _
 rw[Q];clear Q;have f3:=hE.1;have b5:=hE.below b7 f3;apply wp_label;go_wp2_with fail;refine(read_any s J).mono ?_;rintro e A ⟨b,gk,gs,rfl,d3,a9,a5,a8,l4,i1,i3⟩;have d5:=b5.below a8 b5.1;go_wp2_with fail;refine(words_any b A).mono ?_;rintro e W2 ⟨rfl,rfl⟩;have a2:bL A (A.alloc (.cells #[Pt b] 145)):=(Below.refl _ _).alloc rl _;have e2:=d3.alloc (.cells #[Pt b] 145);have d7:(A.alloc (.cells #[.pointer (some ⟨b,0,none⟩)] 145)).1[A.1.size]? =some (.cells #[.pointer (some ⟨b,0,none⟩)] 145 (0,0)):=World.alloc_heap_new _ _;have k7:=d3.lt;have a4:Rdy (A.alloc (.cells #[Pt b] 145)) b gk gs A.1.size s 0:=
  ⟨e2,owns_below a9 a2 a9.lt,owns_below a5 a2 a5.lt,d5.below a2 d5.1,d7,Ne.symm i1,Ne.symm i3,by omega,by omega⟩
 have e8:=a8.size;have k0:=a9.lt;have j9:=a5.lt;have Y:Below J.1.size J (A.alloc (.cells #[.pointer (some ⟨b,0,none⟩)] 145)):=a8.trans (a2.mono e8);have h0:(A.alloc (.cells #[Pt b] 145)).1.size=A.1.size+1:=by simp
 have b6:Inv w (A.alloc (.cells #[Pt b] 145)).1.size s R 0 (A.alloc (.cells #[Pt b] 145)):=
  ⟨⟨[],_,HR.o,rl,Nat.zero_le _,(Y.block _ c8.lt).trans c8,World.ownsRow_nil _ _ _ _⟩,(Y.block _ b9.lt).trans b9,d2.below Y d2.lt,d0.below Y d0.lt,b7.trans (Y.mono (by omega)),rl⟩
 clear d3 a9 a5 a8 b5 d5 a2 e2 d7 d0 c8 b9 d2 b7 Y HR;generalize h6:A.alloc (.cells #[Pt b] 145)=M at *;clear h6;have l5:A.1.size<M.1.size:=by omega
 clear h0;go_wp2_with fail;rename_i hx S H;have hT:∀ (D:Nat) (W:World) (v:Value),M.1.size<=D->W.1[D]? =some (.deferred (some []))->Boxed W (w.1.size+1) 79 v->Boxed W (w.1.size+1+1) 33 (I R.2.2)->Ps W (w.1.size+1+1+1) R.2.1->Ps W w.1.size (0,0)->
   W.ownsRow M.1.size 142 5 v R.1.length (R.1.flatMap Wd.cells)->bL w W->
   S {tmps:= #[.string s,undef,.slice none 0 0,Pt w.1.size,I 0,Pt (w.1.size+1),Pt (w.1.size+1+1),Pt (w.1.size+1+1+1),undef,undef,.string s,I s.size,.bool (decide ((65536:Int)<s.size)),undef,.string s,Pt b,.func (.func 103) #[] #[Pt A.1.size],undef,undef,undef,undef,undef,undef,undef,undef,undef,undef,undef,undef,undef,undef],defers:=[{target:= .collected D,args:= #[]}]} W:=by
  intro D W v hD a1 q1 q2 q3 q0 b4 h8;refine H _ _ ?_;clear H S;have c1:=q1.cell;have c2:=q2.cell;have i4:=q3.c0;have k9:=q3.c1;have i5:=q0.c0;have j4:=q0.c1;have f0:=q0.frozen 0;have f1:=q0.frozen 1;go_wp2_with fail;go_region;go_wp2_with fail;rw[Exit.noGoto_ret];have X:D≠w.1.size:=by omega
  have Q0:Ps (((W.setCell ⟨w.1.size,0,none⟩ (.int .i64 R.2.1.1)).setCell ⟨w.1.size,1,none⟩ (.int .i64 R.2.1.2)).drew) w.1.size (R.2.1.1,R.2.1.2):=(q0.set0 R.2.1.1).set1 R.2.1.2;have d4:(((W.setCell ⟨w.1.size,0,none⟩ (I R.2.1.1)).setCell ⟨w.1.size,1,none⟩ (I R.2.1.2)).drew).1[D]? =some (.deferred (some [])):=
   (Below.heap_setCell _ ⟨w.1.size,1,none⟩ _ D X).trans ((Below.heap_setCell _ ⟨w.1.size,0,none⟩ _ D X).trans a1)
  have f4:bL w (((W.setCell ⟨w.1.size,0,none⟩ (I R.2.1.1)).setCell ⟨w.1.size,1,none⟩ (I R.2.1.2)).drew):=
   ((h8.setCell (p:=⟨w.1.size,0,none⟩) rl _).setCell (p:=⟨w.1.size,1,none⟩) rl _).drew
  have hG:W.grownBy (((W.setCell ⟨w.1.size,0,none⟩ (I R.2.1.1)).setCell ⟨w.1.size,1,none⟩ (I R.2.1.2)).drew) (some w.1.size):=
   ⟨z,z,z,by simp[World.setCell,World.drew],fun k hk X=> (Below.heap_setCell _ ⟨w.1.size,1,none⟩ _ k (fun e=>X (by rw[e]))).trans (Below.heap_setCell _ ⟨w.1.size,0,none⟩ _ k (fun e=>X (by rw[e])))⟩
  have g7:=b4.kept hG (by
   rcases b4.2 with ⟨rfl,_⟩|⟨g,cap,l2,rfl,hb,k8,_⟩
   .exact .inl z
   .refine .inr fun e'=>?_;have:g=w.1.size:=by simpa [Value.ownBlock]using e'
    omega)
  generalize ((W.setCell ⟨w.1.size,0,none⟩ (I R.2.1.1)).setCell ⟨w.1.size,1,none⟩ (I R.2.1.2)).drew=Wf at *;refine⟨by simp,.inl ⟨_,_,z,run_takeDeferred d4,?_⟩⟩;have Q1:Ps (Wf.putObj D (.deferred none)) w.1.size (R.2.1.1,R.2.1.2):=(World.putObj_heap_other (Ne.symm X)).trans Q0;have e0:=Q1.c0;have e1:=Q1.c1;refine⟨_,by simp[results,Tryz.f29,go_sem,e0,e1],⟨v,z,?_,?_⟩⟩
  .exact ownsRow_base (ownsRow_putObj g7 _ d4 z) (by omega)
  .exact f4.trans (belowK_b (w:=w) rl Wf D _ _ (by omega) d4 z z)
 clear H;have e5:w.1.size+4<=M.1.size:=by omega
 have a6:∀j∈ [b,gk,gs,A.1.size,7],j<M.1.size:=by intro j N;have h1:=a4.er.1;simp only[List.mem_cons,List.not_mem_nil,or_false]at N;omega
 have b8:∀ (g n:Nat) (D:DataW Unit),M.ownsMap Tryz.prog 9 (plainElem Tryz.prog 3) g n D->g≠w.1.size+1:=fun g n D U e=>by obtain⟨acc,v,_,_,_,hx,_⟩:=b6.ex;obtain⟨es,i8,h2,_⟩:=U;rw[e,show M.1[w.1.size+1]? =_ from hx]at h2;cases h2
 have f9:∀j∈ [b,gk,gs,A.1.size,7],j≠w.1.size+1:=by intro j N;have k1:=b8 _ _ _ a4.okw;have k2:=b8 _ _ _ a4.osg;simp only[List.mem_cons,List.not_mem_nil,or_false]at N;omega
 clear b8;obtain⟨i0,f8,e9,i2,h9⟩:=info_parts info39;refine(wpIn_wide (n:=n)).1 ?_;refine wpIn_rangeFunc_rd (F:=Fence.wide) z h1 (gf:=103) (lb:= #[Pt A.1.size]) z trivial (enters_of Tryz.func103 (by kernel_rfl) z)
  (words1_in (n-1) (by omega) a4 (Nat.zero_le _) (by omega)) (by omega) ?hL (fun _=>z)
  (Inv w M.1.size s R) (fun c W=>c= .exit 0/\Ivx w R W) ?hI ?hIx ?hIb ?hIxb b6 ?round ?done ?stop
 case hL=>exact a6
 case hI=>exact fun s' a3 B row E U V=>E.kept U (fun r e=>⟨by have:=(V r e).1;omega,.inr (V r e).2⟩)
 case hIx=>exact fun c s' a3 B row E U V=>⟨E.1,E.2.kept U (fun r e=>by have:=(V r e).1;omega)⟩
 case hIb=>exact fun k a3 B E hk=>E.kept hk.to_grown (fun r e=>by cases e;exact⟨by omega,.inl (by omega)⟩)
 case hIxb=>exact fun c a3 B E hk=>⟨E.1,E.2.kept hk.to_grown (fun r e=>by cases e;omega)⟩
 case round=>
  clear hT b6;intro l k W C a7;rw[show encT s k= #[.agg #[I (tokW s (gapAt s k)).kind,.string (tokW s (gapAt s k)).text,I (tokW s (gapAt s k)).num,I (tokW s (gapAt s k)).line,I (tokW s (gapAt s k)).col],I (wErr s (gapAt s k))] from z];generalize ht:tokW s (gapAt s k)=t;generalize e3:wErr s (gapAt s k)=er;have HT:=O ht;have a0:=O e3;clear ht e3;gi_wp2;refine⟨KeepsOthers.alloc _ _,fun j N=>Below.heap_alloc _ _ _ ?_,fun W2=>Inv w M.1.size s R k W2/\Tk W2 W.1.size t.kind t.text t.num (t.line,t.col),?_,⟨?_,?_⟩,?_⟩
  .exact Nat.lt_of_lt_of_le (a6 j N) C.sz
  .intro s' a3 B row E U V;refine⟨E.1.kept U (fun r e=>⟨by have:=(V r e).1;omega,.inr (V r e).2⟩),E.2.of (U.block _ E.2.lt (fun e=>?_))⟩;obtain⟨_,o,ho,hc⟩:=V _ e.symm;rw[E.2]at ho;cases ho;cases hc
  .exact C.kept (World.grownBy_alloc _ _ none) (fun r e=>by cases e)
  .exact World.alloc_heap_new _ _
  rintro W2 ⟨G,K⟩;obtain⟨acc,v,g1,g2,g3,g4,g5⟩:=G.ex;have k6:=gap_ge s k;have j6:=K.c0;have t1:=K.c1;have t2:=K.c2;have t3:=K.c3;have t4:=K.c4;have c1:=g4.cell;have f1:=g4.frozen;by_cases he:er=0
  .subst he;have i6:=wEnd_gt a7 a0.o;have g8:=wEnd_le a7;have Z:lexA s (wEnd s (gapAt s k)) (acc++[t])=R:=by rw[<-HT.o];exact(lexA_on a7 a0.o).trans g1
   have e4:=O Z;have e6:=fun w1 v' o b4 c9=>G.push (w1:=w1) (v':=v') (o:=o) e5 g4 g5 b4 c9 Z (by omega) g8;have f5:=O e6;have HL:=O (And.intro g2 g3);clear Z e6 g1 g2 g3;gi_wp2_with (gi_at_builtin;refine wpListIn_append_own _ z (.tmp 24) (.tmp 26) 79 z M.1.size 142 i0 (.agg #[I 0,.string ⟨#[]⟩,I 0,I 0,I 0]) 5 48 under23 f8 e9 i2 h9 z (by decide) v acc.length (acc.flatMap Wd.cells) z (g5.alloc _) ⟨W2.1.size,0,none⟩ 1 1 t.cells z z ?c2 ?c3 ?c4 ?c5 ?c6 ?_);case c2=>exact fun j u h=>h
   case c3=>simp[Wd.cells,Value.oneCell']
   case c4=>have:=HL.o;unfold maxLen;omega
   case c5=>have:=HL.o;omega
   case c6=> have:=G.sz;simp;omega
   intro v' w1 d8 c9 _;obtain⟨g,cap,rfl⟩:=ownsRow_succ d8;obtain⟨d6,h7,f6,g6⟩:=f5.o _ _ _ d8 c9;have d1:=d6.cell;have e1:=d6.frozen;gi_wp2;refine⟨f6,g6 _ (fun j N=>⟨Nat.lt_of_lt_of_le (a6 j N) G.sz,f9 j N,a6 j N⟩),a0.o,h7⟩
  .have X:(er==0)=false:=by rw[beq_eq_false_iff_ne];exact he
   have l3:(er !=0)=true:=by rw[bne_iff_ne];exact he
   have e4:R=([],(t.line,t.col),er):=by have h2:=lexA_err (s:=s) (k:=k) (acc:=acc) a7 (by rw[a0.o];exact he);rw[g1]at h2;rw[h2,<-HT.o,a0.o];rfl
   gi_wp2_with fail;have j2:=G.b2.cell;have i7:=G.b2.frozen;have j0:=G.b3.c0;have j1:=G.b3.c1;have j3:=G.b3.frozen 0;have j8:=G.b3.frozen 1;have f7:Tryz.prog.follows .mixedOrders=true:=by kernel_rfl
   have i9:=Nat.le_trans e5 C.sz;refine wpIn_region_round [5] (fun A=>Tk A W.1.size t.kind t.text t.num (t.line,t.col)) f7 (by kernel_rfl) (fun h=>by obtain⟨_,_,h⟩:=h;exact h) ?_;refine tb 0 K ?_;refine tg _ 1 K (fun A d9=>And.intro (d9.c3) (d9.c4)) ?_;refine tb 2 K ?_;refine tn 3 fun S H=>?_;go_simp;refine H _ _ (fun _=>K.other (by omega) _ _) ?_;refine tn 4 fun S H=>?_;go_simp;refine H _ _ (fun _=> ((K.other (r:=w.1.size+1) (by omega) 0 (.slice none 0 0)).other (r:=w.1.size+1+1+1) (by omega) 0 (I t.line)).other (r:=w.1.size+1+1+1) (by omega) 1 (I t.col)) ?_;refine tn 5 fun S H=>?_;go_simp;refine H _ _ (fun h=>by cases h) ?_;refine dn ?_;gi_wp2;have g9:=e4;subst g9
   have B1:=(bxo (k:=0) (u:=I er) (bxo (k:=1) (u:=I t.col) (bxo (k:=0) (u:=I t.line) (g4.set (.slice none 0 0)) (r:=w.1.size+1+1+1) (by omega)) (r:=w.1.size+1+1+1) (by omega)) (r:=w.1.size+1+1) (by omega));have B2:=(bxo (k:=1) (u:=I t.col) (bxo (k:=0) (u:=I t.line) (bxo (k:=0) (u:= .slice none 0 0) G.b2 (r:=w.1.size+1) (by omega)) (r:=w.1.size+1+1+1) (by omega)) (r:=w.1.size+1+1+1) (by omega)).set (I er);have B3:=(((G.b3.other (b':=w.1.size+1) (by omega) 0 (.slice none 0 0)).set0 t.line).set1 t.col).other (b':=w.1.size+1+1) (by omega) 0 (I er)
   have B0:=(((G.b0.other (b':=w.1.size+1) (by omega) 0 (.slice none 0 0)).other (b':=w.1.size+1+1+1) (by omega) 0 (I t.line)).other (b':=w.1.size+1+1+1) (by omega) 1 (I t.col)).other (b':=w.1.size+1+1) (by omega) 0 (I er);have BL:=(((G.bl.setCell (p:=⟨w.1.size+1,0,none⟩) (by simp) (.slice none 0 0)).setCell (p:=⟨w.1.size+1+1+1,0,none⟩) (by simp;omega) (I t.line)).setCell (p:=⟨w.1.size+1+1+1,1,none⟩) (by simp;omega) (I t.col)).setCell (p:=⟨w.1.size+1+1,0,none⟩) (by simp;omega) (I er);refine⟨((((KeepsOthers.setCell _ _ _).trans (KeepsOthers.setCell _ _ _)).trans (KeepsOthers.setCell _ _ _)).trans (KeepsOthers.setCell _ _ _)).trans (KeepsOthers.drew _),z,⟨B1,B2,B3,B0,BL.drew,z⟩⟩
 .intro D k W hD f2 C a1;obtain⟨acc,v,h1,h2,h3,h4,h5⟩:=C.ex;have e7:=(lexA_end f2).symm.trans h1;subst e7;exact hT D W v hD a1 h4 C.b2 C.b3 C.b0 h5 C.bl
 .rintro D c W hD ⟨rfl,C⟩ a1;refine wpIn_exit ?_;refine hT D W _ hD a1 C.b1 C.b2 C.b3 C.b0 ?_ C.bl;rw[C.nl];exact World.ownsRow_nil _ _ _ _
theorem lex_long(s:ByteArray)(w:World)(D:65536<s.size):Calls Tryz.prog 29 #[.string s] w (LPost w ([],(0,0),3)):=by
 have E:(65536:Int)< (s.size:Int):=by omega
 have g:Ps (w.alloc (.cells #[.int .i64 0,.int .i64 0] 32)) w.1.size (0,0):=World.alloc_heap_new _ _;have A:bL w (w.alloc (.cells #[I 0,I 0] 32)):=(Below.refl _ w).alloc rl _;go_in;go_wp2;apply wp_scope_straight;go_wp2;have C:=g.c0;have j:=g.c1;refine bodyPost_ret (v:= .tuple #[.slice none 0 0,.agg #[I 0,I 0],I 3]) (by simp[results,Tryz.f29,go_sem,C,j]) z ⟨_,z,World.ownsRow_nil _ _ _ _,?_⟩;exact A
theorem lex_any(s:ByteArray)(w:World)(g:ErrR w):Calls Tryz.prog 29 #[.string s] w (LPost w (lexR s)):=by
 unfold lexR;by_cases h:65536<s.size
 .rw[if_pos h];exact lex_long s w h
 .rw[if_neg h];exact(callsIn_wide (n:=9)).1 (lex_in 9 (by decide) s w (by omega) g)
theorem wds_of{B:Nat}{w':World}{l:List Wd}(h:w'.ownsRow B 142 5 v l.length (l.flatMap Wd.cells)):Wds w' (match v with| .slice a _ _=>a|_=>none) l:=by
 intro i A;have K:∀l:List Wd,(l.flatMap Wd.cells).length=l.length*5:=fun l=>by
  induction l with
  |nil=>rfl
  |cons t r D=> rw[List.flatMap_cons,List.length_append,D,List.length_cons];simp[Wd.cells];omega
 have E:∀ (l:List Wd) (i:Nat),i<l.length->∀j,j<5->(l.flatMap Wd.cells)[i*5+j]? =(l.getD i default).cells[j]? :=by
  intro l;induction l with
  |nil=>intro i A;cases A
  |cons t r D=>
   intro i A j C;rw[List.flatMap_cons];cases i with
   |zero=>
    rw[List.getElem?_append_left (by simp[Wd.cells];omega)];simp
   |succ i=> rw[List.getElem?_append_right (by simp[Wd.cells];omega)];have G:t.cells.length=5:=z;rw[G,show (i+1)*5+j-5=i*5+j by omega];exact D i (by simpa using A) j C
 rcases h.2 with ⟨_,J⟩|⟨g,cap,H,rfl,_⟩
 .omega
 .have w:=fun j C=> (h.cells (g:=g) z) (i*5+j) _ (((E l i A j C).trans (List.getElem?_eq_getElem (show j< (l.getD i default).cells.length from C))));have F:∀j,(⟨g,0,none⟩:Addr).add j=⟨g,0+j,none⟩:=fun j=>by unfold Addr.add;split<;>simp_all
  simp only[F]at w;exact⟨g,0,z,w 0 (by decide),w 1 (by decide),w 2 (by decide),w 3 (by decide),w 4 (by decide)⟩
structure LOut (l:List Wd) (a:Option Addr) (cap:Nat) (w':World):Prop where
 wds:Wds w' a l
 lc:l.length<=cap
 mx:cap<=maxLen
theorem Wds.below{w':World}{B:Nat}{l:List Wd}(h:Wds w a l)(H:Below B w w')(G:w.1.size<=B):Wds w' a l:=by intro i A;obtain⟨b,J,rfl,j,K,E,D,C⟩:=h i A;have F:=World.block_lt_of_cell? w _ j;have g:=fun o=>H.cell (p:=⟨b,o,none⟩) (Nat.lt_of_lt_of_le F G);exact⟨b,J,z,(g _).trans j,(g _).trans K,(g _).trans E,(g _).trans D,(g _).trans C⟩
theorem LOut.below{w':World}{l:List Wd}{cap:Nat}(h:LOut l a cap w)(g:bL w w'):LOut l a cap w':=⟨h.wds.below g rl,h.lc,h.mx⟩
theorem Wds.alloc{l:List Wd}(h:Wds w a l)(o:Obj):Wds (w.alloc o) a l:=h.below ((Below.refl _ w).alloc rl o) rl
theorem lexA_len:∀n k acc,s.size-k<=n->acc.length<=k->k<=s.size->(lexA s k acc).1.length<=s.size:=by
 intro n;induction n with
 |zero=>
  intro k acc A w j;rw[lexA_end (by have:=gap_ge s k;omega)];exact Nat.le_trans w j
 |succ n C=>
  intro k acc A w j;by_cases h:gapAt s k<s.size
  .by_cases g:wErr s (gapAt s k)=0
   .have F:=lex_dec h g;have E:=wEnd_gt h g;have D:=wEnd_le h;have G:=gap_ge s k;rw[<-lexA_on h g];exact C _ _ (by omega) (by simp;omega) D
   .rw[lexA_err h g];exact Nat.zero_le _
  .rw[lexA_end h];exact Nat.le_trans w j
theorem lexR_len(s:ByteArray):(lexR s).1.length<=65536:=by
 unfold lexR;split
 .exact Nat.zero_le _
 .exact Nat.le_trans (lexA_len _ 0 [] rl rl (Nat.zero_le _)) (by omega)
theorem lexA_all:∀n k acc,s.size-k<=n->∀t∈ (lexA s k acc).1,t∈acc∨∃p,p<s.size/\wErr s p=0/\t=tokW s p:=by
 intro n;induction n with
 |zero=>
  intro k acc C t g;rw[lexA_end (by have:=gap_ge s k;omega)]at g;exact .inl g
 |succ n D=>
  intro k acc C t g;by_cases h:gapAt s k<s.size
  .by_cases j:wErr s (gapAt s k)=0
   .have E:=lex_dec h j;rw[<-lexA_on h j]at g;rcases D _ _ (by omega) t g with w|w
    .rcases List.mem_append.1 w with A|A
     .exact .inl A
     .exact .inr ⟨_,h,j,by simpa using A⟩
    .exact .inr w
   .rw[lexA_err h j]at g;cases g
  .rw[lexA_end h]at g;exact .inl g
theorem lexR_all{t:Wd}(g:t∈ (lexR s).1):∃p,p<s.size/\wErr s p=0/\t=tokW s p:=by
 unfold lexR at g;split at g
 .cases g
 .rcases lexA_all _ 0 [] rl t g with h|h
  .cases h
  .exact h
theorem numP_bd(t:List UInt8):0<=(numP t).1/\(numP t).1<=2147483647:=by
 unfold numP;split
 .exact⟨by decide,by decide⟩
 .rename_i h;constructor
  .show (0:Int)<=((fv 0 t:Nat):Int);omega
  .show ((fv 0 t:Nat):Int)<=2147483647;omega
theorem wNum_bd(s:ByteArray)(p:Nat):0<=wNum s p/\wNum s p<=2147483647:=by
 unfold wNum;split
 .exact⟨by decide,by decide⟩
 split
 .split
  .exact⟨by decide,by decide⟩
  .exact numP_bd _
 .exact⟨by decide,by decide⟩
theorem num_bd(s:ByteArray)(i:Nat):0<=((lexR s).1.getD i default).num/\((lexR s).1.getD i default).num<=2147483647:=by
 by_cases h:i< (lexR s).1.length
 .rw[List.getD_eq_getElem?_getD,List.getElem?_eq_getElem h];obtain⟨p,-,-,g⟩:=lexR_all (List.getElem_mem h);show 0<=((lexR s).1[i]).num/\((lexR s).1[i]).num<=2147483647;rw[g];exact wNum_bd s p
 .rw[List.getD_eq_getElem?_getD,List.getElem?_eq_none (by omega)];exact⟨by decide,by decide⟩
def gapF(s:ByteArray):Nat->Nat->Nat
 |0,k=>endOf isBl s k
 |n+1,k=>if endOf isBl s k<s.size/\(byte s (endOf isBl s k)).toNat=35 then gapF s n (endOf isNoNl s (endOf isBl s k)) else endOf isBl s k
theorem gapF_eq(s:ByteArray):∀n k,s.size-k<=n->gapF s n k=gapAt s k:=by
 intro n;induction n with
 |zero=>
  intro k j;have g:=endOf_ge isBl s k;exact(gap_stop (fun h=>by have:=h.1;omega)).symm
 |succ n w=>
  intro k j;have g:=endOf_ge isBl s k;unfold gapF;by_cases h:endOf isBl s k<s.size/\(byte s (endOf isBl s k)).toNat=35
  .have A:=hash_on h.1 h.2;rw[if_pos h,w _ (by omega),gap_hash h.1 h.2]
  .rw[if_neg h,gap_stop h]
def lexF(s:ByteArray):Nat->Nat->List Wd->List Wd× (Int×Int)×Int
 |0,_,acc=> (acc,(0,0),0)
 |n+1,k,acc=>if gapF s s.size k<s.size then (if wErr s (gapF s s.size k)=0 then lexF s n (wEnd s (gapF s s.size k)) (acc++[tokW s (gapF s s.size k)]) else ([],posAt s (gapF s s.size k),wErr s (gapF s s.size k))) else (acc,(0,0),0)
theorem lexF_eq(s:ByteArray):∀n k acc,s.size-k<n->lexF s n k acc=lexA s k acc:=by
 intro n;induction n with
 |zero=>intro k acc A;omega
 |succ n w=>
  intro k acc A;have j:=gapF_eq s s.size k (by omega);unfold lexF;rw[j];by_cases h:gapAt s k<s.size
  .rw[if_pos h];by_cases g:wErr s (gapAt s k)=0
   .have C:=lex_dec h g;rw[if_pos g,w _ _ (by omega),lexA_on h g]
   .rw[if_neg g,lexA_err h g]
  .rw[if_neg h,lexA_end h]
theorem lexR_of{R:List Wd× (Int×Int)×Int}(n:Nat)(j:s.size<=65536)(g:s.size<n)(h:lexF s n 0 []=R):lexR s=R:=by unfold lexR;rw[if_neg (by omega),<-lexF_eq s n 0 [] (by omega)];exact h
end Go.Proofs.YtgppcdfgdaggjaaGreatDoor
