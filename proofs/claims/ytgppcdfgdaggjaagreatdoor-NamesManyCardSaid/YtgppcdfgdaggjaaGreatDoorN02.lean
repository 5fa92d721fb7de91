/- Texts laid together. No condition but what each law says. -/
import Derived.Test.YtgppcdfgdaggjaaGreatDoorN01
import Derived.RangeFuncNested
import Derived.RangeFuncBound
import Derived.RangeFuncCalls
import Derived.RangeFuncLeaves
import Derived.RangeFuncFrom
import Derived.RangeFuncBox
import Derived.Shelf.Abstract
import Derived.Shelf.RegionOpen
import Derived.WalkKit
import Derived.OwnWalkIn
import Derived.TacticsInMore
import Derived.LoopNIn
import Derived.LoopIn
import Derived.Deep.QuietTactic
import Derived.BigQuiet
import Derived.Deep.RegionHeld3
import Derived.Outline
import Derived.WalkSmall
import Derived.Test.YtgppcdfgdaggjaaGreatDoorProg
import Derived.Handy
import Derived.OrdersHeld
import Derived.OrdersIn
set_option maxHeartbeats 2000000
namespace Go.Proofs.YtgppcdfgdaggjaaGreatDoor
open Go.RowKit Go.Proofs.Tryz
open _root_.Array renaming getElem?_eq_getElem→GX,getElem?_eq_some_iff→FT,getElem_modify_self→Ix,getElem?_eq_none→IF,any_eq_true'→ID,setIfInBounds_comm→Gq,all_eq_true'→Jn,getD_eq_getD_getElem?→Io,getElem?_setIfInBounds→Hy
open List renaming getD_eq_getElem?_getD→FD,all_eq_true→GC
open Go renaming World→Fk,Value→Fr,undef→Gm,Program→Hu,Calls→Jq,execOp→HC,wpOp_mono→Ja,YieldsIf→IL,mem_ready→Il,ready_mono→HT,yielded→Hp
open Go.World renaming cell?→FI,frozen?→HQ,grownBy_alloc→Gz
open Go.Region renaming Mode→GS,ready→FP,binds→HK,free→GI,free_spec→II,noSelect→Gt,noSelect_spec→Is,wanted→Gh
open Bool renaming and_eq_true→FG,or_eq_true→HH
open Classical renaming byContradiction→HV
open Decidable renaming em→HY
variable {s:ByteArray}{b g i j k m n:Nat}{W w w0 w1 w2:Fk}{A:Act}{v v0 v1:Fr}
def rL(p:Int×Int)(c:UInt8):Int×Int:=if c=10 then (p.1+1,1) else (p.1,p.2+1)
def aO(s:ByteArray)(k:Nat):UInt8:=s.data.toList.getD k 0
def ao(s:ByteArray):Nat->Int×Int
 |0=> (1,1)
 |k+1=>rL (ao s k) (aO s k)
theorem dQ(s:ByteArray)(k:Nat):1<=(ao s k).1/\(ao s k).1<=k+1/\1<=(ao s k).2/\(ao s k).2<=k+1:=by
 induction k with
 |zero=>simp[ao]
 |succ k g=>
  simp only[ao,rL];split
  .simp only[];omega
  .simp only[];omega
theorem bI(h:k<s.size):s[k]=aO s k:=by unfold aO;rw[FD,Array.getElem?_toList];have g:=h;rw[GX g];rfl
def Ps(w:Fk)(b:Nat)(p:Int×Int):Prop:=w.1[b]? =some (.cells #[.int .i64 p.1,.int .i64 p.2] 32 (0,0))
theorem Ps.lt{p:Int×Int}(h:Ps w b p):b<w.1.size:=(FT.1 h).1
theorem Ps.c0{p:Int×Int}(h:Ps w b p):w.cell? (ad b 0)=some (I p.1):=by unfold Ps at h;simp[FI,h]
theorem Ps.c1{p:Int×Int}(h:Ps w b p):w.cell? (ad b 1)=some (I p.2):=by unfold Ps at h;simp[FI,h]
theorem Ps.frozen{p:Int×Int}(h:Ps w b p)(k:Nat):w.frozen? (ad b k)=false:=by unfold Ps at h;simp[HQ,h]
theorem Ps.set0{p:Int×Int}(h:Ps w b p)(x:Int):Ps (w.setCell (ad b 0) (I x)) b (x,p.2):=by
 have g:=h.lt;have j:w.1[b]= .cells #[I p.1,I p.2] 32 (0,0):=by unfold Ps at h;simpa [GX g]using h
 show (w.1.modify b _)[b]? =_;rw[GX (by simpa using g),Ix,j];simp
theorem Ps.set1{p:Int×Int}(h:Ps w b p)(x:Int):Ps (w.setCell (ad b 1) (I x)) b (p.1,x):=by
 have g:=h.lt;have j:w.1[b]= .cells #[I p.1,I p.2] 32 (0,0):=by unfold Ps at h;simpa [GX g]using h
 show (w.1.modify b _)[b]? =_;rw[GX (by simpa using g),Ix,j];simp
theorem Ps.other{b':Nat}{p:Int×Int}(h:Ps w b p)(g:b≠b')(k:Nat)(u:Fr):Ps (w.setCell (ad b' k) u) b p:=(Below.heap_setCell w (ad b' k) u b g).trans h
theorem Ps.alloc{p:Int×Int}(h:Ps w b p)(o:Obj):Ps (w.alloc o) b p:=((Gz w o none).block b h.lt (by simp)).trans h
theorem Ps.below{w':Fk}{B:Nat}{p:Int×Int}(h:Ps w b p)(g:Below B w w')(j:b<B):Ps w' b p:=(g.block b j).trans h
theorem mD{g:Func}{R:Ending->Fk->Prop}{s:Tmp}{p:Int×Int}(h:Ps W b p)(F:g.results= #[.cell s 32])
  (C:A.tmps.getD s Gm=Pt b)(hd:A.defers=[])(D:R (.returned (.agg #[I p.1,I p.2])) W):bodyPost prog g R .ret A W:=by
 have w:=h.c0;have E:=h.c1;have j:A.tmps[s]?.getD Gm=Pt b:=by rw[<-C];simp
 refine bodyPost_ret (v:= .agg #[I p.1,I p.2]) ?_ hd D;simp[results,F,go_sem,j,w,E]
def mA:Op->Bool
 | .defer _=>true
 |_=>false
theorem qL{P:Hu}{l:Nat}{row:String}{args:Array Fr}{R:Fr->Fk->Prop}(h:Rows P row args w R):RowsIn (Fence.wide.inRound l) n P row args w R:=
 fun c cs _=>let ⟨v,w',r,s⟩:=h c cs;⟨v,w',r,stepsIn_wide.2 s⟩
theorem pi{P:Hu}{l:Nat}{f:FuncId}{args:Array Fr}{R:Ending->Fk->Prop}(h:Jq P f args w R):CallsIn (Fence.wide.inRound l) n P f args w R:=
 CallsIn.inRound l (callsIn_wide.2 h)
theorem re{P:Hu}{l:Nat}{g:Array Oper}{D:Exit->Act->Fk->Prop}(hd:∀ (i:Nat) (o:Oper),g[i]? =some o->mA o.op=false)(F:¬LetsOut D)
  {E:Act->Fk->Prop}{a:Act}(h:wpOp P g D i E a w):wpOpIn (Fence.wide.inRound l) n P g D i E a w:=by
 unfold wpOp at h;unfold wpOpIn;cases j:g[i]? with
 |none=>simpa [j]using h
 |some o=>
  simp only[j]at h ⊢;split
  .rename_i C;simp only[C,if_true]at h;rcases h with h|⟨_,h⟩
   .refine⟨fun _ _=>trivial,?_⟩;have G:o.semAt (Fence.wide.inRound l).round a.eval=HC a.eval o:=Oper.semAt_some l _ _ (fun c H=>by have:=hd i o j;rw[H]at this;cases this)
    rw[G];unfold Oper.wp at h;generalize (HC a.eval o).run P w=r at *;cases r with
    |ok x w'=>
     cases x<;>simp only[Oper.upon,Oper.uponIn]at h ⊢<;>
      first
       |exact h
       |exact⟨fun A=>by simp[Fence.wide,Fence.inRound]at A,pi h⟩
       |exact⟨fun A=>by simp[Fence.wide,Fence.inRound]at A,qL h⟩
    |halt x w'=>cases x<;>simp only[Oper.upon,Oper.uponIn]at h ⊢<;>exact h
   .exact absurd h F
  .rename_i C;simp only[C]at h;exact⟨fun _ _=>trivial,h⟩
theorem kw{P:Hu}{l:Nat}{A:Array Oper}{j:Exit->Act->Fk->Prop}{E:GS}(hd:∀ (i:Nat) (o:Oper),A[i]? =some o->mA o.op=false)(C:¬LetsOut j):
  ∀ (g:Nat) (D:Array Bool) (a:Act) (w:Fk),wpAny P E A j g D a w->wpAnyIn (Fence.wide.inRound l) n P E A j g D a w
 |0,_,_,_,h=>h
 |g+1,_,_,_,h=>⟨h.1,fun i F=>re hd C (Ja (fun H w' G=>kw hd C g _ H w' G) (h.2 i F))⟩
def cK(P:Hu)(md:GS)(ops:Array Oper)(Q:Exit->Act->Fk->Prop)(late:List Nat)(S:Fk->Prop):Nat->Array Bool->Act->Fk->Prop
 |0,listed,a,w=>FP md ops listed=[]/\Q .normal a w
 |fuel+1,listed,a,w=>
  (FP md ops listed=[]->Q .normal a w)/\
  ∀i∈FP md ops listed,wpOp P ops Q i (fun a' w'=> (late.contains i=false->S w')/\cK P md ops Q late S fuel (listed.setIfInBounds i true) a' w') a w
def xD(md:GS)(ops:Array Oper)(late:List Nat)(i:Nat):Bool:=
 late.all fun j=>match ops[j]? with
  |some o=>o.after.any fun e=>HK md e&&e.on==i
  |none=>true
section
variable {P:Hu} {ops:Array Oper} {Q:Exit→Act→Fk→Prop} {md:GS} {late:List Nat} {S:Fk→Prop}
theorem hL:∀ (g:Nat) (j:Array Bool) (a:Act) (w:Fk),cK P md ops Q late S g j a w->wpAny P md ops Q g j a w
 |0,_,_,_,h=>h
 |g+1,_,_,_,h=>⟨h.1,fun i A=>Ja (fun D w' C=>hL g _ D w' C.2) (h.2 i A)⟩
theorem eU{w:Array Bool}(A:w.getD i true=false)(g:w.getD i false=true):False:=by
 rcases Nat.lt_or_ge i w.size with j|j
 .simp[j]at A g;rw[A]at g;cases g
 .simp[IF j]at g
theorem rA{D:Oper}(R:ops[i]? =some D)(a0:∀ (j:Nat) (o:Oper) cs b,ops[j]? =some o->o.op≠ .select cs b)
  (hQ:∀c a w,Q (.panic c) (a.put D.dst v) w->Q (.panic c) a w)(hl:xD md ops late i=true)(J:Nat):∀ (A:Array Bool) (a:Act) (w:Fk),
   (∀j C,ops[j]? =some C->j≠i->A.getD j true=false->(∀e∈C.after,HK md e=true->e.on≠i)->D.apart ops C=true)->
   i∈FP md ops A->IL P ops S D v a->S w->
   cK P md ops Q late S J (A.setIfInBounds i true) (a.put D.dst v) w->cK P md ops Q late S (J+1) A a w:=by
 induction J with
 |zero=>
  intro A a w _ F K E H;refine⟨fun h=>absurd F (by rw[h];simp),fun j G=>?_⟩;have g:j=i:=HV fun a7=>by have h0:=HT G a7;rw[H.1]at h0;simp at h0
  subst g;exact K.wpOp R E ⟨fun _=>E,H⟩
 |succ J ih=>
  intro A a w a3 F K E H;refine⟨fun h=>absurd F (by rw[h];simp),fun j G=>?_⟩;rcases HY (j=i) with g|g
  .subst g;exact K.wpOp R E ⟨fun _=>E,H⟩
  .let ⟨a1,C,N,a6⟩:=Il.1 G
   have a2:∀e∈C.after,HK md e=true->e.on≠i:=fun e V X Y=>by have h1:=a6 e V X;rw[Y]at h1;exact eU (Il.1 F).1 h1
   have a8:late.contains j=false:=by
    cases hc:late.contains j with
    |false=>rfl
    |true=>
     have U:=GC.1 hl j (by simpa using hc);rw[N]at U;simp only[ID,FG,beq_iff_eq]at U;let ⟨e,V,X,Y⟩:=U
     exact absurd Y (a2 e V X)
   have h2:=wpOp_putIf N (a3 j C N g a1 a2) (fun cs b=>a0 i D cs b R) (fun cs b=>a0 j C cs b N) hQ K (H.2 j (HT G g));refine Ja (fun a' w' M=>⟨M.2.1,ih (A.setIfInBounds j true) a' w' ?_ (HT F (Ne.symm g)) M.1 (M.2.1 a8) ?_⟩) h2
   .intro k ok hk a5 Z a4;refine a3 k ok hk a5 ?_ a4;rcases HY (j=k) with W|W
    .subst W;exact a1
    .rw[getD_set_ne true W]at Z;exact Z
   .rw[Gq _ _ g];exact M.2.2
theorem oh(i:Nat){A:Oper}{g:Array Bool}{a:Act}(C:ops[i]? =some A)
  (F:Gt ops=true)(J:GI md ops g i=true)(D:(FP md ops g).contains i=true)(K:xD md ops late i=true)
  (G:∀c a w,Q (.panic c) (a.put A.dst v) w->Q (.panic c) a w)(H:S w)(E:IL P ops S A v a)
  (h:cK P md ops Q late S j (g.setIfInBounds i true) (a.put A.dst v) w):cK P md ops Q late S (j+1) g a w:=
 rA C (Is F) G K j g a w (II C J) (by simpa using D) E H h
theorem nC{g:Array Bool}{a:Act}(j:FP md ops g=[])(h:Q .normal a w):∀A,cK P md ops Q late S A g a w
 |0=>⟨j,h⟩
 |_+1=>⟨fun _=>h,by rw[j];simp⟩
theorem jT{C:Array Bool}{a:Act}(i:Nat){o:Oper}(F:FP md ops C=[i])(G:ops[i]? =some o)
  (h:∀D:Act->Fk->Prop,(∀A w',(late.contains i=false->S w')->cK P md ops Q late S g (C.setIfInBounds i true) A w'->D A w')->
   if Gh o (Hp ops a.tmps) then o.wp P a w D Q else D (a.put o.dst Gm) w):
  cK P md ops Q late S (g+1) C a w:=by
 refine⟨fun N=>absurd (F.symm.trans N) (by simp),fun j E=>?_⟩;obtain rfl:j=i:=by rw[F]at E;simpa using E
 exact wpOp_step G (fun K M=>h K (fun A w' J H=>M A w' ⟨J,H⟩))
end
theorem hZ{P:Hu}{l:Nat}{g:Array Oper}{j:Exit->Act->Fk->Prop}(D:List Nat)(S:Fk->Prop){id:Nat}{a:Act}(E:P.follows .mixedOrders=true)
  (hd:g.all (fun o=>!mA o.op)=true)(C:¬LetsOut j)
  (h:cK P .any g j D S g.size (Array.replicate g.size false) a w.drew):(Code.region id g true).wpIn (Fence.wide.inRound l) n P j a w:=
 wpIn_region_any E (kw (fun i o A=>by have:=Jn.1 hd o (Array.mem_of_getElem? A);simpa using this) C _ _ _ _ (hL _ _ _ _ h))
theorem al{P:Hu}{g:Array Oper}{j:Exit->Act->Fk->Prop}(A:List Nat)(S:Fk->Prop){id:Nat}{a:Act}(C:P.follows .mixedOrders=true)
  (h:cK P .any g j A S g.size (Array.replicate g.size false) a w.drew):(Code.region id g true).wp P j a w:=
 wp_region_any C (hL _ _ _ _ h)
def hy(md:GS)(ops:Array Oper)(listed:Array Bool):Prop:=
 ∀ (k:Nat) (o:Oper),ops[k]? =some o->listed.getD k false=true->∀e∈o.after,HK md e=true->listed.getD e.on false=true
def bM(md:GS)(ops:Array Oper)(listed:Array Bool):Bool:=
 (List.range ops.size).all fun k=>match ops[k]? with
  |some o=>!listed.getD k false||o.after.all fun e=>!Region.binds md e||listed.getD e.on false
  |none=>true
theorem lC{A:GS}{g:Array Oper}{j:Array Bool}(h:bM A g j=true):hy A g j:=by intro k o w G e D F;have C:=GC.1 h k (List.mem_range.2 (FT.1 w).1);simp only[w,G,Bool.not_true,Bool.false_or]at C;have E:=Jn.1 C e D;simpa [F]using E
theorem kb{g:Array Bool}(h:g.getD k false=true):(g.setIfInBounds j true).getD k false=true:=by
 have A:k<g.size:=by
  rcases Nat.lt_or_ge k g.size with w|w
  .exact w
  .simp[IF w]at h
 simp only[Io,Hy]at h ⊢;split
 .simp_all
 .exact h
theorem hy.add{C:GS}{g:Array Oper}{w:Array Bool}(h:hy C g w)(H:j∈FP C g w):hy C g (w.setIfInBounds j true):=by
 intro k o A D e E F;let ⟨_,M,K,G⟩:=Il.1 H
 by_cases J:k=j
 .subst J;rw[K]at A;cases A;exact kb (G e E F)
 .refine kb (h k o A ?_ e E F);simp only[Io,Hy]at D ⊢;rw[am (by omega)]at D;exact D
def hB(md:GS)(ops:Array Oper)(i:Nat):Nat->Nat->Bool
 |0,_=>false
 |n+1,k=>match ops[k]? with
  |some o=>o.after.any fun e=>HK md e&& (e.on==i||hB md ops i n e.on)
  |none=>false
theorem hx{E:GS}{w:Array Oper}{g:Array Bool}(D:hy E w g)(C:g.getD i false=false):∀ (n k:Nat),hB E w i n k=true->g.getD k false=false
 |0,_,h=>by cases h
 |n+1,k,h=>by
  cases H:g.getD k false with
  |false=>rfl
  |true=>
   unfold hB at h
   cases A:w[k]? with
   |none=>simp[A]at h
   |some o=>
    simp only[A,ID,FG,HH,beq_iff_eq]at h
    let ⟨e,F,G,h⟩:=h
    have j:=D k o A H e F G
    rcases h with rfl|h
    .rw[C]at j;cases j
    .rw[hx D C n e.on h]at j;cases j
def cz(md:GS)(ops:Array Oper)(late:List Nat)(i:Nat):Bool:=late.all fun j=>hB md ops i (ops.size+1) j
section
variable {P:Hu} {ops:Array Oper} {Q:Exit→Act→Fk→Prop} {md:GS} {late:List Nat} {S:Fk→Prop}
theorem oX{D:Oper}(W:ops[i]? =some D)(Z:∀ (j:Nat) (o:Oper) cs b,ops[j]? =some o->o.op≠ .select cs b)
  (hQ:∀c a w,Q (.panic c) (a.put D.dst v) w->Q (.panic c) a w)(hl:cz md ops late i=true)(K:Nat):∀ (g:Array Bool) (a:Act) (w:Fk),
   hy md ops g->
   (∀j C,ops[j]? =some C->j≠i->g.getD j true=false->(∀e∈C.after,HK md e=true->e.on≠i)->D.apart ops C=true)->
   i∈FP md ops g->IL P ops S D v a->S w->
   cK P md ops Q late S K (g.setIfInBounds i true) (a.put D.dst v) w->cK P md ops Q late S (K+1) g a w:=by
 induction K with
 |zero=>
  intro g a w _ _ E N F H;refine⟨fun h=>absurd E (by rw[h];simp),fun j G=>?_⟩;have A:j=i:=HV fun a8=>by have h0:=HT G a8;rw[H.1]at h0;simp at h0
  subst A;exact N.wpOp W F ⟨fun _=>F,H⟩
 |succ K ih=>
  intro g a w a2 a4 E N F H;refine⟨fun h=>absurd E (by rw[h];simp),fun j G=>?_⟩;rcases HY (j=i) with A|A
  .subst A;exact N.wpOp W F ⟨fun _=>F,H⟩
  .let ⟨a0,C,V,a3⟩:=Il.1 G
   have a7:g.getD i false=false:=by
    cases h:g.getD i false with
    |false=>rfl
    |true=>exact(eU (Il.1 E).1 h).elim
   have a1:∀e∈C.after,HK md e=true->e.on≠i:=fun e M R b4=>by have J:=a3 e M R;rw[b4]at J;exact eU (Il.1 E).1 J
   have a9:late.contains j=false:=by
    cases hc:late.contains j with
    |false=>rfl
    |true=>
     have hw:=GC.1 hl j (by simpa using hc);simp only[hB,V,ID,FG,HH,beq_iff_eq]at hw;let ⟨e,M,R,h⟩:=hw
     rcases h with h|h
     .exact absurd h (a1 e M R)
     .have J:=a3 e M R;rw[hx a2 a7 _ _ h]at J;cases J
   have h2:=wpOp_putIf V (a4 j C V A a0 a1) (fun cs b=>Z i D cs b W) (fun cs b=>Z j C cs b V) hQ N (H.2 j (HT G A));refine Ja (fun a' w' U=>⟨U.2.1,ih (g.setIfInBounds j true) a' w' (a2.add G) ?_ (HT E (Ne.symm A)) U.1 (U.2.1 a9) ?_⟩) h2
   .intro k ok hk a6 Y a5;refine a4 k ok hk a6 ?_ a5;rcases HY (j=k) with X|X
    .subst X;exact a0
    .rw[getD_set_ne true X]at Y;exact Y
   .rw[Gq _ _ A];exact U.2.2
theorem fO(i:Nat){A:Oper}{g:Array Bool}{a:Act}(C:ops[i]? =some A)
  (F:Gt ops=true)(K:GI md ops g i=true)(D:(FP md ops g).contains i=true)(M:cz md ops late i=true)(J:bM md ops g=true)
  (G:∀c a w,Q (.panic c) (a.put A.dst v) w->Q (.panic c) a w)(H:S w)(E:IL P ops S A v a)
  (h:cK P md ops Q late S j (g.setIfInBounds i true) (a.put A.dst v) w):cK P md ops Q late S (j+1) g a w:=
 oX C (Is F) G M j g a w (lC J) (II C K) (by simpa using D) E H h
end
structure Kp (w w':Fk) (a b:Nat):Prop where
 os:w'.os=w.os
 tape:w'.tape=w.tape
 output:w'.output=w.output
 size:w.1.size<=w'.1.size
 block:∀k,k<w.1.size->k≠a->k≠b->w'.1[k]? =w.1[k]?
theorem Kp.refl(w:Fk)(a b:Nat):Kp w w a b:=⟨z,z,z,rl,fun _ _ _ _=>z⟩
theorem Kp.trans{a:Nat}(h:Kp w w1 a b)(g:Kp w1 w2 a b):Kp w w2 a b:=
 ⟨g.os.trans h.os,g.tape.trans h.tape,g.output.trans h.output,Nat.le_trans h.size g.size,fun k A C j=> (g.block k (Nat.lt_of_lt_of_le A h.size) C j).trans (h.block k A C j)⟩
theorem Kp.drew{w':Fk}{a:Nat}(h:Kp w w' a b):Kp w w'.drew a b:=⟨h.os,h.tape,h.output,h.size,h.block⟩
theorem Kp.Dg{w':Fk}{a:Nat}(h:Kp w w' a b)(k:Nat)(u:Fr):Kp w (w'.setCell (ad a k) u) a b:=
 ⟨h.os,h.tape,h.output,by simpa [World.setCell]using h.size,fun j C g A=> (Below.heap_setCell w' (ad a k) u j g).trans (h.block j C g A)⟩
theorem Kp.below{w':Fk}{a:Nat}(h:bL w w'):Kp w w' a b:=⟨h.os,h.tape,h.output,h.size,fun k g _ _=>h.block k g⟩
theorem Kp.Dx{w':Fk}{B a:Nat}(h:Kp w w' a b)(g:Below B w0 w)(A:B<=w.1.size)(D:B<=a)(j:B<=b):Below B w0 w':=
 g.trans ⟨h.os,h.tape,h.output,h.size,fun k C=>h.block k (by omega) (by omega) (by omega)⟩
def ae(f:UInt8->Bool)(s:ByteArray)(k:Nat):Nat:=k+((s.data.toList.drop k).takeWhile f).length
theorem ci(s:ByteArray):s.data.toList.length=s.size:=Array.length_toList
theorem dp(h:k<s.size):s.data.toList.drop k=aO s k::s.data.toList.drop (k+1):=by
 have g:k<s.data.toList.length:=by rw[ci];exact h
 rw[List.drop_eq_getElem_cons g];unfold aO;rw[FD,List.getElem?_eq_getElem g];rfl
theorem cu{f:UInt8->Bool}(h:k<s.size)(g:f (aO s k)=true):ae f s (k+1)=ae f s k:=by unfold ae;rw[dp h,List.takeWhile_cons_of_pos g,List.length_cons];omega
theorem dk{f:UInt8->Bool}(h:k<s.size)(g:f (aO s k)=false):ae f s k=k:=by unfold ae;rw[dp h,List.takeWhile_cons_of_neg (by simp[g])];simp
theorem cX{f:UInt8->Bool}(h:s.size<=k):ae f s k=k:=by unfold ae;rw[List.drop_eq_nil_of_le (by rw[ci];exact h)];rfl
theorem cH{f:UInt8->Bool}(h:k<=s.size):k<=ae f s k/\ae f s k<=s.size:=by unfold ae;have g:((s.data.toList.drop k).takeWhile f).length<=(s.data.toList.drop k).length:=(List.takeWhile_prefix f).length_le;rw[List.length_drop,ci]at g;omega
def Rd(w:Fk)(b:Nat)(s:ByteArray)(k:Nat)(kw sg:Fr):Prop:=
 w.1[b]? =some (.cells #[.int .i64 (ao s k).1,.int .i64 (ao s k).2,.string s,.int .i64 (k:Int),kw,sg] 150 (0,0))
theorem Rd.lt(h:Rd w b s k v0 v1):b<w.1.size:=(FT.1 h).1
theorem Rd.of{w':Fk}(h:Rd w b s k v0 v1)(g:w'.1[b]? =w.1[b]?):Rd w' b s k v0 v1:=g.trans h
theorem Rd.ER{w':Fk}(h:Rd w b s k v0 v1)(g:bL w w'):Rd w' b s k v0 v1:=h.of (g.block b h.lt)
theorem Rd.alloc(h:Rd w b s k v0 v1)(o:Obj):Rd (w.alloc o) b s k v0 v1:=h.of ((Gz w o none).block b h.lt (by simp))
theorem Rd.c0(h:Rd w b s k v0 v1):w.cell? (ad b 0)=some (I (ao s k).1):=by unfold Rd at h;simp[FI,h]
theorem Rd.c1(h:Rd w b s k v0 v1):w.cell? (ad b 1)=some (I (ao s k).2):=by unfold Rd at h;simp[FI,h]
theorem Rd.c2(h:Rd w b s k v0 v1):w.cell? (ad b 2)=some (.string s):=by unfold Rd at h;simp[FI,h]
theorem Rd.c3(h:Rd w b s k v0 v1):w.cell? (ad b 3)=some (I k):=by unfold Rd at h;simp[FI,h]
theorem Rd.c4(h:Rd w b s k v0 v1):w.cell? (ad b 4)=some v0:=by unfold Rd at h;simp[FI,h]
theorem Rd.c5(h:Rd w b s k v1 v0):w.cell? (ad b 5)=some v0:=by unfold Rd at h;simp[FI,h]
theorem Rd.frozen(h:Rd w b s k v0 v1)(j:Nat):w.frozen? (ad b j)=false:=by unfold Rd at h;simp[HQ,h]
theorem bz{cs:Array Fr}{t:TypeId}(h:w.1[b]? =some (.cells cs t (0,0)))(u:Fr):(w.setCell (ad b j) u).1[b]? =some (.cells (cs.setIfInBounds j u) t (0,0)):=by
 have g:=(FT.1 h).1;have A:w.1[b]= .cells cs t (0,0):=by simpa [GX g]using h
 show (w.1.modify b _)[b]? =_;rw[GX (by simpa using g),Ix,A];simp
theorem Rd.Dm(h:Rd w b s k v0 v1)(A:aO s k≠10):
  Rd ((w.setCell (ad b 1) (I ((ao s k).2+1))).setCell (ad b 3) (I ((k:Int)+1))) b s (k+1) v0 v1:=by
 have g:=bz (j:=3) (bz (j:=1) h (I ((ao s k).2+1))) (I ((k:Int)+1));unfold Rd;rw[g];simp[ao,rL,A]
theorem Rd.line(h:Rd w b s k v0 v1)(A:aO s k=10):
  Rd (((w.setCell (ad b 0) (I ((ao s k).1+1))).setCell (ad b 1) (I 1)).setCell (ad b 3) (I ((k:Int)+1))) b s (k+1) v0 v1:=by
 have g:=bz (j:=3) (bz (j:=1) (bz (j:=0) h (I ((ao s k).1+1))) (I 1)) (I ((k:Int)+1));unfold Rd;rw[g];simp[ao,rL,A]
def bw(c:UInt8):Bool:=decide (97<=c.toNat)&&decide (c.toNat<=122)
def aK(c:UInt8):Bool:=decide (48<=c.toNat)&&decide (c.toNat<=57)
def ct(c:UInt8):Bool:=c.toNat==32||c.toNat==9||c.toNat==13||c.toNat==10
def aH(c:UInt8):Bool:=bw c||aK c
def bu(c:UInt8):Bool:=!(c.toNat==10)
theorem dP:((n:Int)==(m:Int))=(n==m):=by rw[Bool.eq_iff_iff,beq_iff_eq,beq_iff_eq];omega
theorem dF(c:UInt8)(w:Fk):Jq prog 139 #[.int .u8 (c.toNat:Int)] w fun e w'=>e= .returned (.bool (bw c))/\w=w':=by
 by_cases A:97<=c.toNat
 .by_cases g:c.toNat<=122
  .have j:(97:Int)<=(c.toNat:Int):=by omega
   have C:(c.toNat:Int)<=122:=by omega
   rw[show bw c=true by simp[bw,A,g]];go_in;go_wp2;go_ret;exact⟨z,z⟩
  .have j:(97:Int)<=(c.toNat:Int):=by omega
   have C:¬ (c.toNat:Int)<=122:=by omega
   rw[show bw c=false by simp[bw,g]];go_in;go_wp2;go_ret;exact⟨z,z⟩
 .have j:¬ (97:Int)<=(c.toNat:Int):=by omega
  rw[show bw c=false by simp[bw,A]];go_in;go_wp2;go_ret;exact⟨z,z⟩
theorem fE(c:UInt8)(w:Fk):Jq prog 141 #[.int .u8 (c.toNat:Int)] w fun e w'=>e= .returned (.bool (aK c))/\w=w':=by
 by_cases A:48<=c.toNat
 .by_cases g:c.toNat<=57
  .have j:(48:Int)<=(c.toNat:Int):=by omega
   have C:(c.toNat:Int)<=57:=by omega
   rw[show aK c=true by simp[aK,A,g]];go_in;go_wp2;go_ret;exact⟨z,z⟩
  .have j:(48:Int)<=(c.toNat:Int):=by omega
   have C:¬ (c.toNat:Int)<=57:=by omega
   rw[show aK c=false by simp[aK,g]];go_in;go_wp2;go_ret;exact⟨z,z⟩
 .have j:¬ (48:Int)<=(c.toNat:Int):=by omega
  rw[show aK c=false by simp[aK,A]];go_in;go_wp2;go_ret;exact⟨z,z⟩
theorem gN(c:UInt8)(w:Fk):Jq prog 82 #[.int .u8 (c.toNat:Int)] w fun e w'=>e= .returned (.bool (bw c))/\w=w':=by
 by_cases A:97<=c.toNat
 .by_cases g:c.toNat<=122
  .have j:(97:Int)<=(c.toNat:Int):=by omega
   have C:(c.toNat:Int)<=122:=by omega
   rw[show bw c=true by simp[bw,A,g]];go_in;go_wp2;go_ret;exact⟨z,z⟩
  .have j:(97:Int)<=(c.toNat:Int):=by omega
   have C:¬ (c.toNat:Int)<=122:=by omega
   rw[show bw c=false by simp[bw,g]];go_in;go_wp2;go_ret;exact⟨z,z⟩
 .have j:¬ (97:Int)<=(c.toNat:Int):=by omega
  rw[show bw c=false by simp[bw,A]];go_in;go_wp2;go_ret;exact⟨z,z⟩
theorem ff(c:UInt8)(w:Fk):Jq prog 84 #[.int .u8 (c.toNat:Int)] w fun e w'=>e= .returned (.bool (aK c))/\w=w':=by
 by_cases A:48<=c.toNat
 .by_cases g:c.toNat<=57
  .have j:(48:Int)<=(c.toNat:Int):=by omega
   have C:(c.toNat:Int)<=57:=by omega
   rw[show aK c=true by simp[aK,A,g]];go_in;go_wp2;go_ret;exact⟨z,z⟩
  .have j:(48:Int)<=(c.toNat:Int):=by omega
   have C:¬ (c.toNat:Int)<=57:=by omega
   rw[show aK c=false by simp[aK,g]];go_in;go_wp2;go_ret;exact⟨z,z⟩
 .have j:¬ (48:Int)<=(c.toNat:Int):=by omega
  rw[show aK c=false by simp[aK,A]];go_in;go_wp2;go_ret;exact⟨z,z⟩
theorem qD(c:UInt8)(w:Fk):Jq prog 137 #[.int .u8 (c.toNat:Int)] w fun e w'=>e= .returned (.bool (ct c))/\w=w':=by
 let ⟨H,E⟩:=eX ((c.toNat==32))
 let ⟨G,C⟩:=eX ((c.toNat==9))
 let ⟨g,A⟩:=eX ((c.toNat==13))
 let ⟨D,j⟩:=eX ((c.toNat==10))
 have M:((c.toNat:Int)==32)=H:=by rw[<-E];exact dP (m:=32)
 have K:((c.toNat:Int)==9)=G:=by rw[<-C];exact dP (m:=9)
 have J:((c.toNat:Int)==13)=g:=by rw[<-A];exact dP (m:=13)
 have F:((c.toNat:Int)==10)=D:=by rw[<-j];exact dP (m:=10)
 rw[show ct c=(H||G||g||D) by simp only[ct,E,C,A,j]];cases H
 .cases G
  .cases g
   .cases D;all_goals
     go_in;go_wp2;go_ret;exact⟨z,z⟩
   .clear F;go_in;go_wp2;go_ret;exact⟨z,z⟩
  .clear J F;go_in;go_wp2;go_ret;exact⟨z,z⟩
 .clear K J F;go_in;go_wp2;go_ret;exact⟨z,z⟩
theorem sG(c:UInt8)(w:Fk):Jq prog 138 #[.int .u8 (c.toNat:Int)] w fun e w'=>e= .returned (.bool (bu c))/\w=w':=by
 let ⟨g,j⟩:=eX ((c.toNat==10))
 have A:((c.toNat:Int)==10)=g:=by rw[<-j];exact dP (m:=10)
 have C:((c.toNat:Int) !=10)=!g:=by rw[<-A];rfl
 rw[show bu c=!g by simp only[bu,j]];cases g;all_goals
  go_in;go_wp2;go_ret;exact⟨z,z⟩
theorem uR(c:UInt8)(w:Fk):Jq prog 140 #[.int .u8 (c.toNat:Int)] w fun e w'=>e= .returned (.bool (aH c))/\w=w':=by
 have c1:=dF c w;have c2:=fE c w;let ⟨A,j⟩:=eX (bw c)
 let ⟨C,g⟩:=eX (aK c)
 rw[j]at c1;rw[g]at c2;rw[show aH c=(A||C) by simp only[aH,j,g]];cases A
 .go_in;go_wp2_with fail;apply c1.mono;rintro e w' ⟨rfl,rfl⟩;go_wp2_with fail;apply c2.mono;rintro e w' ⟨rfl,rfl⟩;go_wp2;go_ret;exact⟨z,z⟩
 .go_in;go_wp2_with fail;apply c1.mono;rintro e w' ⟨rfl,rfl⟩;go_wp2;go_ret;exact⟨z,z⟩
theorem wU(c:UInt8)(w:Fk):Jq prog 62 #[.int .u8 (c.toNat:Int)] w fun e w'=>e= .returned (.bool true)/\w=w':=by go_in;go_wp2;go_ret;exact⟨z,z⟩
section
variable {P:Hu} {ops:Array Oper} {Q:Exit→Act→Fk→Prop} {md:GS} {late:List Nat} {S:Fk→Prop} {fuel:Nat} {listed:Array Bool} {a:Act} {w:Fk} {o:Oper} {v:Fr}
theorem tb(i:Nat)(E:S w)(h:cK P md ops Q late S fuel (listed.setIfInBounds i true) (a.put o.dst v) w)(A:ops[i]? =some o:=by rfl)
 (g:(Gt ops&& (GI md ops listed i&& ((FP md ops listed).contains i&& (cz md ops late i&&bM md ops listed))))=true:=by kernel_rfl)
 (F:∀c a w,Q (.panic c) (a.put o.dst v) w->Q (.panic c) a w:=by exact fun _ _ _ h=>h)(D:Gh o (Hp ops a.tmps)=true:=by rfl)
 (C:∀w',S w'->(HC a.eval o).run P w'= .ok (.value v) w':=by intro G j;clear j;go_simp;with_reducible rfl):cK P md ops Q late S (fuel+1) listed a w:=by
 simp only[FG]at g;exact fO i A g.1 g.2.1 g.2.2.1 g.2.2.2.1 g.2.2.2.2 F E (Or.inl ⟨D,C⟩) h
theorem tg(F:Fk->Prop)(i:Nat)(C:S w)(H:∀w,S w->F w)(h:cK P md ops Q late S fuel (listed.setIfInBounds i true) (a.put o.dst v) w)(g:ops[i]? =some o:=by rfl)
 (E:(Gt ops&& (GI md ops listed i&& ((FP md ops listed).contains i&& (cz md ops late i&&bM md ops listed))))=true:=by kernel_rfl)
 (G:∀c a w,Q (.panic c) (a.put o.dst v) w->Q (.panic c) a w:=by exact fun _ _ _ h=>h)(A:Gh o (Hp ops a.tmps)=true:=by rfl)
 (j:∀w',F w'->(HC a.eval o).run P w'= .ok (.value v) w':=by intro K J;go_simp;with_reducible rfl):cK P md ops Q late S (fuel+1) listed a w:=
 tb i C h g E G A fun w' D=>j w' (H w' D)
theorem tu(i:Nat)(C:S w)(h:cK P md ops Q late S fuel (listed.setIfInBounds i true) (a.put o.dst Gm) w)(j:ops[i]? =some o:=by rfl)
 (g:(Gt ops&& (GI md ops listed i&& ((FP md ops listed).contains i&& (cz md ops late i&&bM md ops listed))))=true:=by kernel_rfl)
 (D:∀c a w,Q (.panic c) (a.put o.dst Gm) w->Q (.panic c) a w:=by exact fun _ _ _ h=>h)(A:Gh o (Hp ops a.tmps)=false:=by rfl):cK P md ops Q late S (fuel+1) listed a w:=by
 simp only[FG]at g;exact fO i j g.1 g.2.1 g.2.2.1 g.2.2.2.1 g.2.2.2.2 D C (Or.inr ⟨A,z⟩) h
theorem tn(i:Nat)(h:∀g:Act->Fk->Prop,(∀j w',(late.contains i=false->S w')->cK P md ops Q late S fuel (listed.setIfInBounds i true) j w'->g j w')->
   if Gh o (Hp ops a.tmps) then o.wp P a w g Q else g (a.put o.dst Gm) w)(A:FP md ops listed=[i]:=by kernel_rfl)(C:ops[i]? =some o:=by rfl):
  cK P md ops Q late S (fuel+1) listed a w:=jT i A C h
theorem t0(i:Nat)(E:S w)(h:cK P md ops Q late S fuel (listed.setIfInBounds i true) A w)(D:FP md ops listed=[i]:=by kernel_rfl)(C:ops[i]? =some o:=by rfl)
 (F:∀g:Act->Fk->Prop,g A w->if Gh o (Hp ops a.tmps) then o.wp P a w g Q else g (a.put o.dst Gm) w:=by intro g j;go_simp;exact j):cK P md ops Q late S (fuel+1) listed a w:=
 jT i D C fun g j=>F g (j _ _ (fun _=>E) h)
theorem dn(h:Q .normal a w)(g:FP md ops listed=[]:=by kernel_rfl):cK P md ops Q late S fuel listed a w:=nC g h fuel
end
end Go.Proofs.YtgppcdfgdaggjaaGreatDoor
