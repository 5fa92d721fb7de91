/- Texts laid together. No condition but what each law says. -/
import Derived.Test.YtgppcdfgdaggjaaGreatDoorR01
import Derived.RangeFuncNested
import Derived.RangeFuncBound
import Derived.RangeFuncCalls
import Derived.RangeFuncLeaves
import Derived.RangeFuncFrom
import Derived.RangeFuncBox
import Derived.Shelf.Abstract
import Derived.Shelf.RegionOpen
import Derived.WalkKit
import Derived.OwnWalkIn
import Derived.TacticsInMore
import Derived.LoopNIn
import Derived.LoopIn
import Derived.Deep.QuietTactic
import Derived.BigQuiet
import Derived.Deep.RegionHeld3
import Derived.Outline
import Derived.WalkSmall
import Derived.Test.YtgppcdfgdaggjaaGreatDoorProg
import Derived.Handy
import Derived.OrdersHeld
import Derived.OrdersIn
set_option maxHeartbeats 2000000
namespace Go.Proofs.YtgppcdfgdaggjaaGreatDoor
open Go.RowKit
variable {s:ByteArray}{b g i j k m n:Nat}{W w w0 w1 w2:World}{A:Act}{v v0 v1:Value}
def adv(p:Int×Int)(c:UInt8):Int×Int:=if c=10 then (p.1+1,1) else (p.1,p.2+1)
def byte(s:ByteArray)(k:Nat):UInt8:=s.data.toList.getD k 0
def posAt(s:ByteArray):Nat->Int×Int
 |0=> (1,1)
 |k+1=>adv (posAt s k) (byte s k)
theorem posAt_le(s:ByteArray)(k:Nat):1<=(posAt s k).1/\(posAt s k).1<=k+1/\1<=(posAt s k).2/\(posAt s k).2<=k+1:=by
 induction k with
 |zero=>simp[posAt]
 |succ k g=>
  simp only[posAt,adv];split
  .simp only[];omega
  .simp only[];omega
theorem byte_at(h:k<s.size):s[k]=byte s k:=by unfold byte;rw[List.getD_eq_getElem?_getD,Array.getElem?_toList];have g:=h;rw[Array.getElem?_eq_getElem g];rfl
def Ps(w:World)(b:Nat)(p:Int×Int):Prop:=w.1[b]? =some (.cells #[.int .i64 p.1,.int .i64 p.2] 32 (0,0))
theorem Ps.lt{p:Int×Int}(h:Ps w b p):b<w.1.size:=(Array.getElem?_eq_some_iff.1 h).1
theorem Ps.c0{p:Int×Int}(h:Ps w b p):w.cell? ⟨b,0,none⟩=some (I p.1):=by unfold Ps at h;simp[World.cell?,h]
theorem Ps.c1{p:Int×Int}(h:Ps w b p):w.cell? ⟨b,1,none⟩=some (I p.2):=by unfold Ps at h;simp[World.cell?,h]
theorem Ps.frozen{p:Int×Int}(h:Ps w b p)(k:Nat):w.frozen? ⟨b,k,none⟩=false:=by unfold Ps at h;simp[World.frozen?,h]
theorem Ps.set0{p:Int×Int}(h:Ps w b p)(x:Int):Ps (w.setCell ⟨b,0,none⟩ (I x)) b (x,p.2):=by
 have g:=h.lt;have j:w.1[b]= .cells #[I p.1,I p.2] 32 (0,0):=by unfold Ps at h;simpa [Array.getElem?_eq_getElem g]using h
 show (w.1.modify b _)[b]? =_;rw[Array.getElem?_eq_getElem (by simpa using g),Array.getElem_modify_self,j];simp
theorem Ps.set1{p:Int×Int}(h:Ps w b p)(x:Int):Ps (w.setCell ⟨b,1,none⟩ (I x)) b (p.1,x):=by
 have g:=h.lt;have j:w.1[b]= .cells #[I p.1,I p.2] 32 (0,0):=by unfold Ps at h;simpa [Array.getElem?_eq_getElem g]using h
 show (w.1.modify b _)[b]? =_;rw[Array.getElem?_eq_getElem (by simpa using g),Array.getElem_modify_self,j];simp
theorem Ps.other{b':Nat}{p:Int×Int}(h:Ps w b p)(g:b≠b')(k:Nat)(u:Value):Ps (w.setCell ⟨b',k,none⟩ u) b p:=(Below.heap_setCell w ⟨b',k,none⟩ u b g).trans h
theorem Ps.alloc{p:Int×Int}(h:Ps w b p)(o:Obj):Ps (w.alloc o) b p:=((World.grownBy_alloc w o none).block b h.lt (by simp)).trans h
theorem Ps.below{w':World}{B:Nat}{p:Int×Int}(h:Ps w b p)(g:Below B w w')(j:b<B):Ps w' b p:=(g.block b j).trans h
theorem end_p25{g:Func}{R:Ending->World->Prop}{s:Tmp}{p:Int×Int}(h:Ps W b p)(F:g.results= #[.cell s 32])
  (C:A.tmps.getD s undef=Pt b)(hd:A.defers=[])(D:R (.returned (.agg #[I p.1,I p.2])) W):bodyPost Tryz.prog g R .ret A W:=by
 have w:=h.c0;have E:=h.c1;have j:A.tmps[s]?.getD undef=Pt b:=by rw[<-C];simp
 refine bodyPost_ret (v:= .agg #[I p.1,I p.2]) ?_ hd D;simp[results,F,go_sem,j,w,E]
def isDefer:Op->Bool
 | .defer _=>true
 |_=>false
theorem rowsIn_of{P:Program}{l:Nat}{row:String}{args:Array Value}{R:Value->World->Prop}(h:Rows P row args w R):RowsIn (Fence.wide.inRound l) n P row args w R:=
 fun c cs _=>let ⟨v,w',r,s⟩:=h c cs;⟨v,w',r,stepsIn_wide.2 s⟩
theorem callsIn_of{P:Program}{l:Nat}{f:FuncId}{args:Array Value}{R:Ending->World->Prop}(h:Calls P f args w R):CallsIn (Fence.wide.inRound l) n P f args w R:=
 CallsIn.inRound l (callsIn_wide.2 h)
theorem wpOpIn_of{P:Program}{l:Nat}{g:Array Oper}{D:Exit->Act->World->Prop}(hd:∀ (i:Nat) (o:Oper),g[i]? =some o->isDefer o.op=false)(F:¬LetsOut D)
  {E:Act->World->Prop}{a:Act}(h:wpOp P g D i E a w):wpOpIn (Fence.wide.inRound l) n P g D i E a w:=by
 unfold wpOp at h;unfold wpOpIn;cases j:g[i]? with
 |none=>simpa [j]using h
 |some o=>
  simp only[j]at h ⊢;split
  .rename_i C;simp only[C,if_true]at h;rcases h with h|⟨_,h⟩
   .refine⟨fun _ _=>trivial,?_⟩;have G:o.semAt (Fence.wide.inRound l).round a.eval=execOp a.eval o:=Oper.semAt_some l _ _ (fun c H=>by have:=hd i o j;rw[H]at this;cases this)
    rw[G];unfold Oper.wp at h;generalize (execOp a.eval o).run P w=r at *;cases r with
    |ok x w'=>
     cases x<;>simp only[Oper.upon,Oper.uponIn]at h ⊢<;>
      first
       |exact h
       |exact⟨fun A=>by simp[Fence.wide,Fence.inRound]at A,callsIn_of h⟩
       |exact⟨fun A=>by simp[Fence.wide,Fence.inRound]at A,rowsIn_of h⟩
    |halt x w'=>cases x<;>simp only[Oper.upon,Oper.uponIn]at h ⊢<;>exact h
   .exact absurd h F
  .rename_i C;simp only[C]at h;exact⟨fun _ _=>trivial,h⟩
theorem wpAnyIn_of{P:Program}{l:Nat}{A:Array Oper}{j:Exit->Act->World->Prop}{E:Region.Mode}(hd:∀ (i:Nat) (o:Oper),A[i]? =some o->isDefer o.op=false)(C:¬LetsOut j):
  ∀ (g:Nat) (D:Array Bool) (a:Act) (w:World),wpAny P E A j g D a w->wpAnyIn (Fence.wide.inRound l) n P E A j g D a w
 |0,_,_,_,h=>h
 |g+1,_,_,_,h=>⟨h.1,fun i F=>wpOpIn_of hd C (wpOp_mono (fun H w' G=>wpAnyIn_of hd C g _ H w' G) (h.2 i F))⟩
def wpX(P:Program)(md:Region.Mode)(ops:Array Oper)(Q:Exit->Act->World->Prop)(late:List Nat)(S:World->Prop):Nat->Array Bool->Act->World->Prop
 |0,listed,a,w=>Region.ready md ops listed=[]/\Q .normal a w
 |fuel+1,listed,a,w=>
  (Region.ready md ops listed=[]->Q .normal a w)/\
  ∀i∈Region.ready md ops listed,wpOp P ops Q i (fun a' w'=> (late.contains i=false->S w')/\wpX P md ops Q late S fuel (listed.setIfInBounds i true) a' w') a w
def waits(md:Region.Mode)(ops:Array Oper)(late:List Nat)(i:Nat):Bool:=
 late.all fun j=>match ops[j]? with
  |some o=>o.after.any fun e=>Region.binds md e&&e.on==i
  |none=>true
section
variable {P:Program} {ops:Array Oper} {Q:Exit→Act→World→Prop} {md:Region.Mode} {late:List Nat} {S:World→Prop}
theorem wpAny_of_X:∀ (g:Nat) (j:Array Bool) (a:Act) (w:World),wpX P md ops Q late S g j a w->wpAny P md ops Q g j a w
 |0,_,_,_,h=>h
 |g+1,_,_,_,h=>⟨h.1,fun i A=>wpOp_mono (fun D w' C=>wpAny_of_X g _ D w' C.2) (h.2 i A)⟩
theorem not_both{w:Array Bool}(A:w.getD i true=false)(g:w.getD i false=true):False:=by
 rcases Nat.lt_or_ge i w.size with j|j
 .simp[j]at A g;rw[A]at g;cases g
 .simp[Array.getElem?_eq_none j]at g
theorem wpX_first{D:Oper}(R:ops[i]? =some D)(a0:∀ (j:Nat) (o:Oper) cs b,ops[j]? =some o->o.op≠ .select cs b)
  (hQ:∀c a w,Q (.panic c) (a.put D.dst v) w->Q (.panic c) a w)(hl:waits md ops late i=true)(J:Nat):∀ (A:Array Bool) (a:Act) (w:World),
   (∀j C,ops[j]? =some C->j≠i->A.getD j true=false->(∀e∈C.after,Region.binds md e=true->e.on≠i)->D.apart ops C=true)->
   i∈Region.ready md ops A->YieldsIf P ops S D v a->S w->
   wpX P md ops Q late S J (A.setIfInBounds i true) (a.put D.dst v) w->wpX P md ops Q late S (J+1) A a w:=by
 induction J with
 |zero=>
  intro A a w _ F K E H;refine⟨fun h=>absurd F (by rw[h];simp),fun j G=>?_⟩;have g:j=i:=Classical.byContradiction fun a7=>by have h0:=ready_mono G a7;rw[H.1]at h0;simp at h0
  subst g;exact K.wpOp R E ⟨fun _=>E,H⟩
 |succ J ih=>
  intro A a w a3 F K E H;refine⟨fun h=>absurd F (by rw[h];simp),fun j G=>?_⟩;rcases Decidable.em (j=i) with g|g
  .subst g;exact K.wpOp R E ⟨fun _=>E,H⟩
  .obtain⟨a1,C,N,a6⟩:=mem_ready.1 G;have a2:∀e∈C.after,Region.binds md e=true->e.on≠i:=fun e V X Y=>by have h1:=a6 e V X;rw[Y]at h1;exact not_both (mem_ready.1 F).1 h1
   have a8:late.contains j=false:=by
    cases hc:late.contains j with
    |false=>rfl
    |true=> have U:=List.all_eq_true.1 hl j (by simpa using hc);rw[N]at U;simp only[Array.any_eq_true',Bool.and_eq_true,beq_iff_eq]at U;obtain⟨e,V,X,Y⟩:=U;exact absurd Y (a2 e V X)
   have h2:=wpOp_putIf N (a3 j C N g a1 a2) (fun cs b=>a0 i D cs b R) (fun cs b=>a0 j C cs b N) hQ K (H.2 j (ready_mono G g));refine wpOp_mono (fun a' w' M=>⟨M.2.1,ih (A.setIfInBounds j true) a' w' ?_ (ready_mono F (Ne.symm g)) M.1 (M.2.1 a8) ?_⟩) h2
   .intro k ok hk a5 Z a4;refine a3 k ok hk a5 ?_ a4;rcases Decidable.em (j=k) with W|W
    .subst W;exact a1
    .rw[getD_set_ne true W]at Z;exact Z
   .rw[Array.setIfInBounds_comm _ _ g];exact M.2.2
theorem wpX_take(i:Nat){A:Oper}{g:Array Bool}{a:Act}(C:ops[i]? =some A)
  (F:Region.noSelect ops=true)(J:Region.free md ops g i=true)(D:(Region.ready md ops g).contains i=true)(K:waits md ops late i=true)
  (G:∀c a w,Q (.panic c) (a.put A.dst v) w->Q (.panic c) a w)(H:S w)(E:YieldsIf P ops S A v a)
  (h:wpX P md ops Q late S j (g.setIfInBounds i true) (a.put A.dst v) w):wpX P md ops Q late S (j+1) g a w:=
 wpX_first C (Region.noSelect_spec F) G K j g a w (Region.free_spec C J) (by simpa using D) E H h
theorem wpX_done{g:Array Bool}{a:Act}(j:Region.ready md ops g=[])(h:Q .normal a w):∀A,wpX P md ops Q late S A g a w
 |0=>⟨j,h⟩
 |_+1=>⟨fun _=>h,by rw[j];simp⟩
theorem wpX_one{C:Array Bool}{a:Act}(i:Nat){o:Oper}(F:Region.ready md ops C=[i])(G:ops[i]? =some o)
  (h:∀D:Act->World->Prop,(∀A w',(late.contains i=false->S w')->wpX P md ops Q late S g (C.setIfInBounds i true) A w'->D A w')->
   if Region.wanted o (yielded ops a.tmps) then o.wp P a w D Q else D (a.put o.dst undef) w):
  wpX P md ops Q late S (g+1) C a w:=by
 refine⟨fun N=>absurd (F.symm.trans N) (by simp),fun j E=>?_⟩;obtain rfl:j=i:=by rw[F]at E;simpa using E
 exact wpOp_step G (fun K M=>h K (fun A w' J H=>M A w' ⟨J,H⟩))
end
theorem wpIn_region_round{P:Program}{l:Nat}{g:Array Oper}{j:Exit->Act->World->Prop}(D:List Nat)(S:World->Prop){id:Nat}{a:Act}(E:P.follows .mixedOrders=true)
  (hd:g.all (fun o=>!isDefer o.op)=true)(C:¬LetsOut j)
  (h:wpX P .any g j D S g.size (Array.replicate g.size false) a w.drew):(Code.region id g true).wpIn (Fence.wide.inRound l) n P j a w:=
 wpIn_region_any E (wpAnyIn_of (fun i o A=>by have:=Array.all_eq_true'.1 hd o (Array.mem_of_getElem? A);simpa using this) C _ _ _ _ (wpAny_of_X _ _ _ _ h))
theorem wp_region_x{P:Program}{g:Array Oper}{j:Exit->Act->World->Prop}(A:List Nat)(S:World->Prop){id:Nat}{a:Act}(C:P.follows .mixedOrders=true)
  (h:wpX P .any g j A S g.size (Array.replicate g.size false) a w.drew):(Code.region id g true).wp P j a w:=
 wp_region_any C (wpAny_of_X _ _ _ _ h)
def Closed(md:Region.Mode)(ops:Array Oper)(listed:Array Bool):Prop:=
 ∀ (k:Nat) (o:Oper),ops[k]? =some o->listed.getD k false=true->∀e∈o.after,Region.binds md e=true->listed.getD e.on false=true
def closedB(md:Region.Mode)(ops:Array Oper)(listed:Array Bool):Bool:=
 (List.range ops.size).all fun k=>match ops[k]? with
  |some o=>!listed.getD k false||o.after.all fun e=>!Region.binds md e||listed.getD e.on false
  |none=>true
theorem closed_of{A:Region.Mode}{g:Array Oper}{j:Array Bool}(h:closedB A g j=true):Closed A g j:=by intro k o w G e D F;have C:=List.all_eq_true.1 h k (List.mem_range.2 (Array.getElem?_eq_some_iff.1 w).1);simp only[w,G,Bool.not_true,Bool.false_or]at C;have E:=Array.all_eq_true'.1 C e D;simpa [F]using E
theorem getD_set{g:Array Bool}(h:g.getD k false=true):(g.setIfInBounds j true).getD k false=true:=by
 have A:k<g.size:=by
  rcases Nat.lt_or_ge k g.size with w|w
  .exact w
  .simp[Array.getElem?_eq_none w]at h
 simp only[Array.getD_eq_getD_getElem?,Array.getElem?_setIfInBounds]at h ⊢;split
 .simp_all
 .exact h
theorem Closed.add{C:Region.Mode}{g:Array Oper}{w:Array Bool}(h:Closed C g w)(H:j∈Region.ready C g w):Closed C g (w.setIfInBounds j true):=by
 intro k o A D e E F;obtain⟨_,M,K,G⟩:=mem_ready.1 H;by_cases J:k=j
 .subst J;rw[K]at A;cases A;exact getD_set (G e E F)
 .refine getD_set (h k o A ?_ e E F);simp only[Array.getD_eq_getD_getElem?,Array.getElem?_setIfInBounds]at D ⊢;rw[if_neg (by omega)]at D;exact D
def waitsN(md:Region.Mode)(ops:Array Oper)(i:Nat):Nat->Nat->Bool
 |0,_=>false
 |n+1,k=>match ops[k]? with
  |some o=>o.after.any fun e=>Region.binds md e&& (e.on==i||waitsN md ops i n e.on)
  |none=>false
theorem waitsN_not{E:Region.Mode}{w:Array Oper}{g:Array Bool}(D:Closed E w g)(C:g.getD i false=false):∀ (n k:Nat),waitsN E w i n k=true->g.getD k false=false
 |0,_,h=>by cases h
 |n+1,k,h=>by
  cases H:g.getD k false with
  |false=>rfl
  |true=>
   unfold waitsN at h
   cases A:w[k]? with
   |none=>simp[A]at h
   |some o=>
    simp only[A,Array.any_eq_true',Bool.and_eq_true,Bool.or_eq_true,beq_iff_eq]at h
    obtain⟨e,F,G,h⟩:=h
    have j:=D k o A H e F G
    rcases h with rfl|h
    .rw[C]at j;cases j
    .rw[waitsN_not D C n e.on h]at j;cases j
def waits2(md:Region.Mode)(ops:Array Oper)(late:List Nat)(i:Nat):Bool:=late.all fun j=>waitsN md ops i (ops.size+1) j
section
variable {P:Program} {ops:Array Oper} {Q:Exit→Act→World→Prop} {md:Region.Mode} {late:List Nat} {S:World→Prop}
theorem wpX_first2{D:Oper}(W:ops[i]? =some D)(Z:∀ (j:Nat) (o:Oper) cs b,ops[j]? =some o->o.op≠ .select cs b)
  (hQ:∀c a w,Q (.panic c) (a.put D.dst v) w->Q (.panic c) a w)(hl:waits2 md ops late i=true)(K:Nat):∀ (g:Array Bool) (a:Act) (w:World),
   Closed md ops g->
   (∀j C,ops[j]? =some C->j≠i->g.getD j true=false->(∀e∈C.after,Region.binds md e=true->e.on≠i)->D.apart ops C=true)->
   i∈Region.ready md ops g->YieldsIf P ops S D v a->S w->
   wpX P md ops Q late S K (g.setIfInBounds i true) (a.put D.dst v) w->wpX P md ops Q late S (K+1) g a w:=by
 induction K with
 |zero=>
  intro g a w _ _ E N F H;refine⟨fun h=>absurd E (by rw[h];simp),fun j G=>?_⟩;have A:j=i:=Classical.byContradiction fun a8=>by have h0:=ready_mono G a8;rw[H.1]at h0;simp at h0
  subst A;exact N.wpOp W F ⟨fun _=>F,H⟩
 |succ K ih=>
  intro g a w a2 a4 E N F H;refine⟨fun h=>absurd E (by rw[h];simp),fun j G=>?_⟩;rcases Decidable.em (j=i) with A|A
  .subst A;exact N.wpOp W F ⟨fun _=>F,H⟩
  .obtain⟨a0,C,V,a3⟩:=mem_ready.1 G;have a7:g.getD i false=false:=by
    cases h:g.getD i false with
    |false=>rfl
    |true=>exact(not_both (mem_ready.1 E).1 h).elim
   have a1:∀e∈C.after,Region.binds md e=true->e.on≠i:=fun e M R b4=>by have J:=a3 e M R;rw[b4]at J;exact not_both (mem_ready.1 E).1 J
   have a9:late.contains j=false:=by
    cases hc:late.contains j with
    |false=>rfl
    |true=>
     have hw:=List.all_eq_true.1 hl j (by simpa using hc);simp only[waitsN,V,Array.any_eq_true',Bool.and_eq_true,Bool.or_eq_true,beq_iff_eq]at hw;obtain⟨e,M,R,h⟩:=hw;rcases h with h|h
     .exact absurd h (a1 e M R)
     .have J:=a3 e M R;rw[waitsN_not a2 a7 _ _ h]at J;cases J
   have h2:=wpOp_putIf V (a4 j C V A a0 a1) (fun cs b=>Z i D cs b W) (fun cs b=>Z j C cs b V) hQ N (H.2 j (ready_mono G A));refine wpOp_mono (fun a' w' U=>⟨U.2.1,ih (g.setIfInBounds j true) a' w' (a2.add G) ?_ (ready_mono E (Ne.symm A)) U.1 (U.2.1 a9) ?_⟩) h2
   .intro k ok hk a6 Y a5;refine a4 k ok hk a6 ?_ a5;rcases Decidable.em (j=k) with X|X
    .subst X;exact a0
    .rw[getD_set_ne true X]at Y;exact Y
   .rw[Array.setIfInBounds_comm _ _ A];exact U.2.2
theorem wpX_take2(i:Nat){A:Oper}{g:Array Bool}{a:Act}(C:ops[i]? =some A)
  (F:Region.noSelect ops=true)(K:Region.free md ops g i=true)(D:(Region.ready md ops g).contains i=true)(M:waits2 md ops late i=true)(J:closedB md ops g=true)
  (G:∀c a w,Q (.panic c) (a.put A.dst v) w->Q (.panic c) a w)(H:S w)(E:YieldsIf P ops S A v a)
  (h:wpX P md ops Q late S j (g.setIfInBounds i true) (a.put A.dst v) w):wpX P md ops Q late S (j+1) g a w:=
 wpX_first2 C (Region.noSelect_spec F) G M j g a w (closed_of J) (Region.free_spec C K) (by simpa using D) E H h
end
structure Kp (w w':World) (a b:Nat):Prop where
 os:w'.os=w.os
 tape:w'.tape=w.tape
 output:w'.output=w.output
 size:w.1.size<=w'.1.size
 block:∀k,k<w.1.size->k≠a->k≠b->w'.1[k]? =w.1[k]?
theorem Kp.refl(w:World)(a b:Nat):Kp w w a b:=⟨z,z,z,rl,fun _ _ _ _=>z⟩
theorem Kp.trans{a:Nat}(h:Kp w w1 a b)(g:Kp w1 w2 a b):Kp w w2 a b:=
 ⟨g.os.trans h.os,g.tape.trans h.tape,g.output.trans h.output,Nat.le_trans h.size g.size,fun k A C j=> (g.block k (Nat.lt_of_lt_of_le A h.size) C j).trans (h.block k A C j)⟩
theorem Kp.drew{w':World}{a:Nat}(h:Kp w w' a b):Kp w w'.drew a b:=⟨h.os,h.tape,h.output,h.size,h.block⟩
theorem Kp.setA{w':World}{a:Nat}(h:Kp w w' a b)(k:Nat)(u:Value):Kp w (w'.setCell ⟨a,k,none⟩ u) a b:=
 ⟨h.os,h.tape,h.output,by simpa [World.setCell]using h.size,fun j C g A=> (Below.heap_setCell w' ⟨a,k,none⟩ u j g).trans (h.block j C g A)⟩
theorem Kp.below{w':World}{a:Nat}(h:bL w w'):Kp w w' a b:=⟨h.os,h.tape,h.output,h.size,fun k g _ _=>h.block k g⟩
theorem Kp.to_below{w':World}{B a:Nat}(h:Kp w w' a b)(g:Below B w0 w)(A:B<=w.1.size)(D:B<=a)(j:B<=b):Below B w0 w':=
 g.trans ⟨h.os,h.tape,h.output,h.size,fun k C=>h.block k (by omega) (by omega) (by omega)⟩
def endOf(f:UInt8->Bool)(s:ByteArray)(k:Nat):Nat:=k+((s.data.toList.drop k).takeWhile f).length
theorem size_list(s:ByteArray):s.data.toList.length=s.size:=Array.length_toList
theorem drop_byte(h:k<s.size):s.data.toList.drop k=byte s k::s.data.toList.drop (k+1):=by
 have g:k<s.data.toList.length:=by rw[size_list];exact h
 rw[List.drop_eq_getElem_cons g];unfold byte;rw[List.getD_eq_getElem?_getD,List.getElem?_eq_getElem g];rfl
theorem endOf_yes{f:UInt8->Bool}(h:k<s.size)(g:f (byte s k)=true):endOf f s (k+1)=endOf f s k:=by unfold endOf;rw[drop_byte h,List.takeWhile_cons_of_pos g,List.length_cons];omega
theorem endOf_no{f:UInt8->Bool}(h:k<s.size)(g:f (byte s k)=false):endOf f s k=k:=by unfold endOf;rw[drop_byte h,List.takeWhile_cons_of_neg (by simp[g])];simp
theorem endOf_end{f:UInt8->Bool}(h:s.size<=k):endOf f s k=k:=by unfold endOf;rw[List.drop_eq_nil_of_le (by rw[size_list];exact h)];rfl
theorem endOf_le{f:UInt8->Bool}(h:k<=s.size):k<=endOf f s k/\endOf f s k<=s.size:=by unfold endOf;have g:((s.data.toList.drop k).takeWhile f).length<=(s.data.toList.drop k).length:=(List.takeWhile_prefix f).length_le;rw[List.length_drop,size_list]at g;omega
def Rd(w:World)(b:Nat)(s:ByteArray)(k:Nat)(kw sg:Value):Prop:=
 w.1[b]? =some (.cells #[.int .i64 (posAt s k).1,.int .i64 (posAt s k).2,.string s,.int .i64 (k:Int),kw,sg] 150 (0,0))
theorem Rd.lt(h:Rd w b s k v0 v1):b<w.1.size:=(Array.getElem?_eq_some_iff.1 h).1
theorem Rd.of{w':World}(h:Rd w b s k v0 v1)(g:w'.1[b]? =w.1[b]?):Rd w' b s k v0 v1:=g.trans h
theorem Rd.belowS{w':World}(h:Rd w b s k v0 v1)(g:bL w w'):Rd w' b s k v0 v1:=h.of (g.block b h.lt)
theorem Rd.alloc(h:Rd w b s k v0 v1)(o:Obj):Rd (w.alloc o) b s k v0 v1:=h.of ((World.grownBy_alloc w o none).block b h.lt (by simp))
theorem Rd.c0(h:Rd w b s k v0 v1):w.cell? ⟨b,0,none⟩=some (I (posAt s k).1):=by unfold Rd at h;simp[World.cell?,h]
theorem Rd.c1(h:Rd w b s k v0 v1):w.cell? ⟨b,1,none⟩=some (I (posAt s k).2):=by unfold Rd at h;simp[World.cell?,h]
theorem Rd.c2(h:Rd w b s k v0 v1):w.cell? ⟨b,2,none⟩=some (.string s):=by unfold Rd at h;simp[World.cell?,h]
theorem Rd.c3(h:Rd w b s k v0 v1):w.cell? ⟨b,3,none⟩=some (I k):=by unfold Rd at h;simp[World.cell?,h]
theorem Rd.c4(h:Rd w b s k v0 v1):w.cell? ⟨b,4,none⟩=some v0:=by unfold Rd at h;simp[World.cell?,h]
theorem Rd.c5(h:Rd w b s k v1 v0):w.cell? ⟨b,5,none⟩=some v0:=by unfold Rd at h;simp[World.cell?,h]
theorem Rd.frozen(h:Rd w b s k v0 v1)(j:Nat):w.frozen? ⟨b,j,none⟩=false:=by unfold Rd at h;simp[World.frozen?,h]
theorem heap_set{cs:Array Value}{t:TypeId}(h:w.1[b]? =some (.cells cs t (0,0)))(u:Value):(w.setCell ⟨b,j,none⟩ u).1[b]? =some (.cells (cs.setIfInBounds j u) t (0,0)):=by
 have g:=(Array.getElem?_eq_some_iff.1 h).1;have A:w.1[b]= .cells cs t (0,0):=by simpa [Array.getElem?_eq_getElem g]using h
 show (w.1.modify b _)[b]? =_;rw[Array.getElem?_eq_getElem (by simpa using g),Array.getElem_modify_self,A];simp
theorem Rd.col(h:Rd w b s k v0 v1)(A:byte s k≠10):
  Rd ((w.setCell ⟨b,1,none⟩ (I ((posAt s k).2+1))).setCell ⟨b,3,none⟩ (I ((k:Int)+1))) b s (k+1) v0 v1:=by
 have g:=heap_set (j:=3) (heap_set (j:=1) h (I ((posAt s k).2+1))) (I ((k:Int)+1));unfold Rd;rw[g];simp[posAt,adv,A]
theorem Rd.line(h:Rd w b s k v0 v1)(A:byte s k=10):
  Rd (((w.setCell ⟨b,0,none⟩ (I ((posAt s k).1+1))).setCell ⟨b,1,none⟩ (I 1)).setCell ⟨b,3,none⟩ (I ((k:Int)+1))) b s (k+1) v0 v1:=by
 have g:=heap_set (j:=3) (heap_set (j:=1) (heap_set (j:=0) h (I ((posAt s k).1+1))) (I 1)) (I ((k:Int)+1));unfold Rd;rw[g];simp[posAt,adv,A]
def isLet(c:UInt8):Bool:=decide (97<=c.toNat)&&decide (c.toNat<=122)
def isDig(c:UInt8):Bool:=decide (48<=c.toNat)&&decide (c.toNat<=57)
def isBl(c:UInt8):Bool:=c.toNat==32||c.toNat==9||c.toNat==13||c.toNat==10
def isAny(c:UInt8):Bool:=isLet c||isDig c
def isNoNl(c:UInt8):Bool:=!(c.toNat==10)
theorem fact_eq:((n:Int)==(m:Int))=(n==m):=by rw[Bool.eq_iff_iff,beq_iff_eq,beq_iff_eq];omega
theorem letter_any(c:UInt8)(w:World):Calls Tryz.prog 139 #[.int .u8 (c.toNat:Int)] w fun e w'=>e= .returned (.bool (isLet c))/\w=w':=by
 by_cases A:97<=c.toNat
 .by_cases g:c.toNat<=122
  .have j:(97:Int)<=(c.toNat:Int):=by omega
   have C:(c.toNat:Int)<=122:=by omega
   rw[show isLet c=true by simp[isLet,A,g]];go_in;go_wp2;go_ret;exact⟨z,z⟩
  .have j:(97:Int)<=(c.toNat:Int):=by omega
   have C:¬ (c.toNat:Int)<=122:=by omega
   rw[show isLet c=false by simp[isLet,g]];go_in;go_wp2;go_ret;exact⟨z,z⟩
 .have j:¬ (97:Int)<=(c.toNat:Int):=by omega
  rw[show isLet c=false by simp[isLet,A]];go_in;go_wp2;go_ret;exact⟨z,z⟩
theorem digit_any(c:UInt8)(w:World):Calls Tryz.prog 141 #[.int .u8 (c.toNat:Int)] w fun e w'=>e= .returned (.bool (isDig c))/\w=w':=by
 by_cases A:48<=c.toNat
 .by_cases g:c.toNat<=57
  .have j:(48:Int)<=(c.toNat:Int):=by omega
   have C:(c.toNat:Int)<=57:=by omega
   rw[show isDig c=true by simp[isDig,A,g]];go_in;go_wp2;go_ret;exact⟨z,z⟩
  .have j:(48:Int)<=(c.toNat:Int):=by omega
   have C:¬ (c.toNat:Int)<=57:=by omega
   rw[show isDig c=false by simp[isDig,g]];go_in;go_wp2;go_ret;exact⟨z,z⟩
 .have j:¬ (48:Int)<=(c.toNat:Int):=by omega
  rw[show isDig c=false by simp[isDig,A]];go_in;go_wp2;go_ret;exact⟨z,z⟩
theorem blank_any(c:UInt8)(w:World):Calls Tryz.prog 137 #[.int .u8 (c.toNat:Int)] w fun e w'=>e= .returned (.bool (isBl c))/\w=w':=by
 obtain⟨H,E⟩:=eX ((c.toNat==32));obtain⟨G,C⟩:=eX ((c.toNat==9));obtain⟨g,A⟩:=eX ((c.toNat==13));obtain⟨D,j⟩:=eX ((c.toNat==10));have M:((c.toNat:Int)==32)=H:=by rw[<-E];exact fact_eq (m:=32)
 have K:((c.toNat:Int)==9)=G:=by rw[<-C];exact fact_eq (m:=9)
 have J:((c.toNat:Int)==13)=g:=by rw[<-A];exact fact_eq (m:=13)
 have F:((c.toNat:Int)==10)=D:=by rw[<-j];exact fact_eq (m:=10)
 rw[show isBl c=(H||G||g||D) by simp only[isBl,E,C,A,j]];cases H
 .cases G
  .cases g
   .cases D;all_goals
     go_in;go_wp2;go_ret;exact⟨z,z⟩
   .clear F;go_in;go_wp2;go_ret;exact⟨z,z⟩
  .clear J F;go_in;go_wp2;go_ret;exact⟨z,z⟩
 .clear K J F;go_in;go_wp2;go_ret;exact⟨z,z⟩
theorem nonl_any(c:UInt8)(w:World):Calls Tryz.prog 138 #[.int .u8 (c.toNat:Int)] w fun e w'=>e= .returned (.bool (isNoNl c))/\w=w':=by
 obtain⟨g,j⟩:=eX ((c.toNat==10));have A:((c.toNat:Int)==10)=g:=by rw[<-j];exact fact_eq (m:=10)
 have C:((c.toNat:Int) !=10)=!g:=by rw[<-A];rfl
 rw[show isNoNl c=!g by simp only[isNoNl,j]];cases g;all_goals
  go_in;go_wp2;go_ret;exact⟨z,z⟩
theorem any_any(c:UInt8)(w:World):Calls Tryz.prog 140 #[.int .u8 (c.toNat:Int)] w fun e w'=>e= .returned (.bool (isAny c))/\w=w':=by
 have c1:=letter_any c w;have c2:=digit_any c w;obtain⟨A,j⟩:=eX (isLet c);obtain⟨C,g⟩:=eX (isDig c);rw[j]at c1;rw[g]at c2;rw[show isAny c=(A||C) by simp only[isAny,j,g]];cases A
 .go_in;go_wp2_with fail;apply c1.mono;rintro e w' ⟨rfl,rfl⟩;go_wp2_with fail;apply c2.mono;rintro e w' ⟨rfl,rfl⟩;go_wp2;go_ret;exact⟨z,z⟩
 .go_in;go_wp2_with fail;apply c1.mono;rintro e w' ⟨rfl,rfl⟩;go_wp2;go_ret;exact⟨z,z⟩
theorem all_any(c:UInt8)(w:World):Calls Tryz.prog 62 #[.int .u8 (c.toNat:Int)] w fun e w'=>e= .returned (.bool true)/\w=w':=by go_in;go_wp2;go_ret;exact⟨z,z⟩
section
variable {P:Program} {ops:Array Oper} {Q:Exit→Act→World→Prop} {md:Region.Mode} {late:List Nat} {S:World→Prop} {fuel:Nat} {listed:Array Bool} {a:Act} {w:World} {o:Oper} {v:Value}
theorem tb(i:Nat)(E:S w)(h:wpX P md ops Q late S fuel (listed.setIfInBounds i true) (a.put o.dst v) w)(A:ops[i]? =some o:=by rfl)
 (g:(Region.noSelect ops&& (Region.free md ops listed i&& ((Region.ready md ops listed).contains i&& (waits2 md ops late i&&closedB md ops listed))))=true:=by kernel_rfl)
 (F:∀c a w,Q (.panic c) (a.put o.dst v) w->Q (.panic c) a w:=by exact fun _ _ _ h=>h)(D:Region.wanted o (yielded ops a.tmps)=true:=by rfl)
 (C:∀w',S w'->(execOp a.eval o).run P w'= .ok (.value v) w':=by intro G j;clear j;go_simp;with_reducible rfl):wpX P md ops Q late S (fuel+1) listed a w:=by
 simp only[Bool.and_eq_true]at g;exact wpX_take2 i A g.1 g.2.1 g.2.2.1 g.2.2.2.1 g.2.2.2.2 F E (Or.inl ⟨D,C⟩) h
theorem tg(F:World->Prop)(i:Nat)(C:S w)(H:∀w,S w->F w)(h:wpX P md ops Q late S fuel (listed.setIfInBounds i true) (a.put o.dst v) w)(g:ops[i]? =some o:=by rfl)
 (E:(Region.noSelect ops&& (Region.free md ops listed i&& ((Region.ready md ops listed).contains i&& (waits2 md ops late i&&closedB md ops listed))))=true:=by kernel_rfl)
 (G:∀c a w,Q (.panic c) (a.put o.dst v) w->Q (.panic c) a w:=by exact fun _ _ _ h=>h)(A:Region.wanted o (yielded ops a.tmps)=true:=by rfl)
 (j:∀w',F w'->(execOp a.eval o).run P w'= .ok (.value v) w':=by intro K J;go_simp;with_reducible rfl):wpX P md ops Q late S (fuel+1) listed a w:=
 tb i C h g E G A fun w' D=>j w' (H w' D)
theorem tu(i:Nat)(C:S w)(h:wpX P md ops Q late S fuel (listed.setIfInBounds i true) (a.put o.dst undef) w)(j:ops[i]? =some o:=by rfl)
 (g:(Region.noSelect ops&& (Region.free md ops listed i&& ((Region.ready md ops listed).contains i&& (waits2 md ops late i&&closedB md ops listed))))=true:=by kernel_rfl)
 (D:∀c a w,Q (.panic c) (a.put o.dst undef) w->Q (.panic c) a w:=by exact fun _ _ _ h=>h)(A:Region.wanted o (yielded ops a.tmps)=false:=by rfl):wpX P md ops Q late S (fuel+1) listed a w:=by
 simp only[Bool.and_eq_true]at g;exact wpX_take2 i j g.1 g.2.1 g.2.2.1 g.2.2.2.1 g.2.2.2.2 D C (Or.inr ⟨A,z⟩) h
theorem tn(i:Nat)(h:∀g:Act->World->Prop,(∀j w',(late.contains i=false->S w')->wpX P md ops Q late S fuel (listed.setIfInBounds i true) j w'->g j w')->
   if Region.wanted o (yielded ops a.tmps) then o.wp P a w g Q else g (a.put o.dst undef) w)(A:Region.ready md ops listed=[i]:=by kernel_rfl)(C:ops[i]? =some o:=by rfl):
  wpX P md ops Q late S (fuel+1) listed a w:=wpX_one i A C h
theorem t0(i:Nat)(E:S w)(h:wpX P md ops Q late S fuel (listed.setIfInBounds i true) A w)(D:Region.ready md ops listed=[i]:=by kernel_rfl)(C:ops[i]? =some o:=by rfl)
 (F:∀g:Act->World->Prop,g A w->if Region.wanted o (yielded ops a.tmps) then o.wp P a w g Q else g (a.put o.dst undef) w:=by intro g j;go_simp;exact j):wpX P md ops Q late S (fuel+1) listed a w:=
 wpX_one i D C fun g j=>F g (j _ _ (fun _=>E) h)
theorem dn(h:Q .normal a w)(g:Region.ready md ops listed=[]:=by kernel_rfl):wpX P md ops Q late S fuel listed a w:=wpX_done g h fuel
end
end Go.Proofs.YtgppcdfgdaggjaaGreatDoor
