/- Texts laid together. No condition but what each law says. -/
import Derived.Test.YtgppcdfgdaggjaaGreatDoorR49
import Derived.Test.YtgppcdfgdaggjaaGreatDoorR15
import Derived.Deep.AppendLies
import Derived.OwnWalk
set_option maxRecDepth 100000
set_option maxHeartbeats 8000000
namespace Go.Proofs.YtgppcdfgdaggjaaGreatDoor
open Go.RowKit Go.Maps
variable {W w w1 w2:World}{v:Value}{b g i j k n:Nat}{a:Option Addr}{S:Src}{s t:ByteArray}{A:Act}
structure El (α:Type) where
 ty:TypeId
 sz:Nat
 L:(Nat->Prop)->World->List Value->α->Prop
 keep:∀ {ok:Nat->Prop} {w w':World} {cs:List Value} {x:α},(∀ (b o:Nat) (v:Value),ok b->w.cellF ⟨b,o,none⟩=some v->w'.cellF ⟨b,o,none⟩=some v)->L ok w cs x->L ok w' cs x
 weak:∀ {ok ok':Nat->Prop} {w:World} {cs:List Value} {x:α},(∀b,ok b->ok' b)->L ok w cs x->L ok' w cs x
 cells:∀ {ok:Nat->Prop} {w:World} {cs:List Value} {x:α},L ok w cs x->cs.length=sz/\∀v∈cs,v.oneCell'=true
 bound:∀ {ok:Nat->Prop} {w:World} {cs:List Value} {x:α},L ok w cs x->L (fun c=>ok c/\c<w.1.size) w cs x
variable {α:Type}
structure Grow (E:El α) (B:Nat) (w:World) (v:Value) (l:List α):Prop where
 own:∃cells:List (List Value),cells.length=l.length/\w.ownsRow B E.ty E.sz v l.length cells.flatten/\
  ∀ (i:Nat) (cs:List Value) (x:α),cells[i]? =some cs->l[i]? =some x->E.L (fun c=> (B<=c/\v.ownBlock≠some c)/\c<w.1.size) w cs x
theorem Grow.nil(E:El α)(B:Nat)(w:World):Grow E B w (.slice none 0 0) []:=⟨[],z,World.ownsRow_nil _ _ _ _,fun i cs x h=>by simp at h⟩
theorem Grow.keep{E:El α}{B:Nat}{w':World}{l:List α}(h:Grow E B w v l)(H:∀c,c<w.1.size->B<=c->w'.1[c]? =w.1[c]?)(J:w.1.size<=w'.1.size):Grow E B w' v l:=by
 obtain⟨cells,M,G,K⟩:=h.own;refine⟨cells,M,⟨G.1,?_⟩,fun i cs x j R=>?_⟩
 .rcases G.2 with A|⟨g,cap,Q,A,C,D,N⟩
  .exact .inl A
  .exact .inr ⟨g,cap,Q,A,C,(H g (Array.getElem?_eq_some_iff.1 D).1 C).trans D,N⟩
 .refine E.weak (fun c j=>⟨j.1,Nat.lt_of_lt_of_le j.2 J⟩) (E.keep (fun b o v F S=>?_) (K i cs x j R));rw[<-S];simp[World.cellF,H b F.2 F.1.1]
theorem Grow.kp{E:El α}{B sb:Nat}{w':World}{l:List α}(h:Grow E B w v l)(g:Kp w w' b sb)(D:b<B)(C:sb<B):Grow E B w' v l:=h.keep (fun c j A=>g.block c j (by omega) (by omega)) g.size
theorem Grow.below{E:El α}{B:Nat}{w':World}{l:List α}(h:Grow E B w v l)(g:bL w w'):Grow E B w' v l:=h.keep (fun c j _=>g.block c j) g.size
theorem Grow.drewN{E:El α}{B:Nat}{l:List α}(h:Grow E B w v l)(n:Nat):Grow E B (w.drewN n) v l:=h.keep (fun _ _ _=>z) rl
theorem Grow.form{E:El α}{B:Nat}{l:List α}(h:Grow E B w v l):∃ (a:Option Addr) (cap:Nat),v= .slice a l.length cap/\Roomy l.length cap:=by
 obtain⟨cells,F,D,-⟩:=h.own;rcases D.2 with ⟨rfl,C⟩|⟨g,cap,G,rfl,-,-,j,A,-⟩
 .exact⟨none,0,by rw[C],by omega,by decide⟩
 .exact⟨_,cap,z,j,A⟩
theorem flatten_at:∀ (L:List (List Value)) (i t:Nat) (cs:List Value),(∀c∈L,c.length=n)->L[i]? =some cs->t<n->L.flatten[i*n+t]? =cs[t]?
 | [],i,t,cs,_,h,_=>by simp at h
 |c::L,0,t,cs,hl,h,ht=>by
  obtain rfl:c=cs:=by simpa using h
  have:=hl c (by simp)
  rw[List.flatten_cons,List.getElem?_append_left (by omega)]
  simp
 |c::L,i+1,t,cs,hl,h,ht=>by
  have g:=hl c (by simp)
  rw[List.flatten_cons,List.getElem?_append_right (by rw[g,Nat.succ_mul];omega),g,show (i+1)*n+t-n=i*n+t by rw[Nat.succ_mul];omega]
  exact flatten_at L i t cs (fun d hd=>hl d (by simp[hd])) (by simpa using h) ht
theorem Grow.at2{E:El α}{B:Nat}{cap:Nat}{l:List α}(h:Grow E B w (.slice a n cap) l)(j:Nat)(x:α)(M:l[j]? =some x):
  ∃ (b H:Nat) (cs:List Value),a=some ⟨b,H,none⟩/\B<=b/\(∀ (t:Nat) (v:Value),cs[t]? =some v->w.cellF ⟨b,H+j*E.sz+t,none⟩=some v)/\E.L (fun c=>B<=c/\c≠b) w cs x/\∀o,w.frozen? ⟨b,o,none⟩=false:=by
 obtain⟨cells,X,G,J⟩:=h.own;have Y:=(List.getElem?_eq_some_iff.1 M).1;obtain⟨cs,C⟩:∃cs,cells[j]? =some cs:=⟨_,List.getElem?_eq_getElem (by omega)⟩;have V:∀c∈cells,c.length=E.sz:=fun c A=>by obtain⟨i,R,rfl⟩:=List.mem_iff_getElem.1 A;exact(E.cells (J i _ _ (List.getElem?_eq_getElem R) (List.getElem?_eq_getElem (by omega)))).1
 have Q:=J j cs x C M;rcases G.2 with ⟨D,N⟩|⟨g,W,Z,D,N,U,-⟩
 .omega
 .cases D;refine⟨g,0,cs,z,N,fun t v F=>?_,E.weak (fun c A=>⟨A.1.1,fun e=>A.1.2 (congrArg some e.symm)⟩) Q,fun o=>by simp[World.frozen?,U]⟩;have S:t<E.sz:=by have:=(List.getElem?_eq_some_iff.1 F).1;rw[(E.cells Q).1]at this;exact this
  have:=flatten_at cells j t cs V C S;have K:=G.cells (g:=g) z (j*E.sz+t) v (by rw[this];exact F);rw[Addr.add_mid]at K;exact World.cellF_mk U (by simpa [Nat.add_assoc]using K)
theorem Grow.at{E:El α}{B:Nat}{cap:Nat}{l:List α}(h:Grow E B w (.slice a n cap) l)(j:Nat)(x:α)(D:l[j]? =some x):
  ∃ (b g:Nat) (cs:List Value),a=some ⟨b,g,none⟩/\B<=b/\(∀ (t:Nat) (v:Value),cs[t]? =some v->w.cellF ⟨b,g+j*E.sz+t,none⟩=some v)/\E.L (B<=·) w cs x:=by
 obtain⟨b,g,cs,C,G,A,F,-⟩:=h.at2 j x D;exact⟨b,g,cs,C,G,A,E.weak (fun c H=>H.1) F⟩
theorem wp_append_grow{o:Oper}{a:Act}{V:Act->World->Prop}{a8:Exit->Act->World->Prop}(E:El α)(s x:Operand)(t:TypeId)
  (ho:o.op= .call {callee:= .builtin .append,args:= #[s,x],argTypes:= #[t,t]})(i:TypeInfo)(z:Value)(F:Nat)(ht:Tryz.prog.underlying t=some (.slice E.ty))(Y:Tryz.prog.info? E.ty=some i)(hz:i.zero=some z)
  (a1:i.size=E.sz)(a4:i.bytes=F)(b5:z.cells.size=E.sz)(a9:0<E.sz)(a7:F<=1024)
  (B:Nat)(w W:World)(v:Value)(l:List α)(hs:a.eval s=v)(hG:Hid (Grow E B w v l))(cs:List Value)(e:α)(U:Hid (E.L (fun c=>B<=c/\v.ownBlock≠some c) w cs e))(hW:W=w.alloc (.cells cs.toArray E.ty))
  (hx:a.eval x= .slice (some ⟨w.1.size,0,none⟩) 1 1)(b7:l.length<=10000000)(hB:B<=w.1.size)
  (h:∀g cap w',Hid (Grow E B w' (.slice (some ⟨g,0,none⟩) (l.length+1) cap) (l++[e]))->Hid (Below B w w')->w.1.size<w'.1.size->V (a.put o.dst (.slice (some ⟨g,0,none⟩) (l.length+1) cap)) w'):o.wp Tryz.prog a W V a8:=by
 subst hW;obtain⟨cells,N,M,h3⟩:=hG;have A:=E.cells U;have a3:=M.lt;refine wp_append_lies (w.alloc (.cells cs.toArray E.ty)) s x t ho B E.ty i z E.sz F ht Y hz a1 a4 b5 a9 v l.length cells.flatten hs (M.alloc _) ⟨w.1.size,0,none⟩ 1 1 cs hx (by rw[A.1,Nat.one_mul]) (fun j u G=>?_) A.2 (by decide) (by unfold maxLen;omega) ?_ (by simp;omega) _ rfl ?_
 .have hn:=World.alloc_heap_new w (.cells cs.toArray E.ty);rw[Addr.add_mid];simp only[World.cell?,hn];simpa using G
 .calc (l.length+1)*F<=10000001*1024:=Nat.mul_le_mul (by omega) a7
   _<=140737488355328:=by decide
 .intro g cap w' b6 C J b9;have a6:(w.alloc (.cells cs.toArray E.ty)).1.size=w.1.size+1:=by simp
  have a5:=C.size;rw[a6]at a5 J;have K:∀c,c<w.1.size->v.ownBlock≠some c->w'.1[c]? =w.1[c]? :=fun c Z a0=> (C.block c (by omega) (fun e=>a0 e.symm)).trans ((World.grownBy_alloc w _ none).block c Z (by simp));refine h g cap w' (O ⟨cells++[cs],by simp[N],?_,?_⟩) (O ⟨C.os.trans rfl,C.tape.trans rfl,C.output.trans rfl,by omega,fun k hk=>K k (by omega) (fun e=>by have:=(a3 k e).1;omega)⟩) (by omega)
  .simpa using b6
  .intro j S y hd D;have H:∀ (d:List Value) (u:α),E.L (fun c=> (B<=c/\v.ownBlock≠some c)/\c<w.1.size) w d u->E.L (fun c=> (B<=c/\(Value.slice (some ⟨g,0,none⟩) (l.length+1) cap).ownBlock≠some c)/\c<w'.1.size) w' d u:=fun d u G=>
    E.weak (fun c A=>⟨⟨A.1.1,fun e=>by
     have X:g=c:=by simpa [Value.ownBlock]using e
     subst X;rcases J with R|R
     .exact A.1.2 R
     .omega⟩,by omega⟩) (E.keep (fun b o v Q hv=>by
      rw[<-hv];simp[World.cellF,K b Q.2 Q.1.2]) G)
   rcases Nat.lt_or_ge j l.length with hj|hj
   .rw[List.getElem?_append_left (by omega)]at hd D;exact H _ _ (h3 j S y hd D)
   .have b8:j<l.length+1:=by have:=(List.getElem?_eq_some_iff.1 D).1;simpa using this
    obtain rfl:j=l.length:=by omega
    have b4:S=cs:=by rw[List.getElem?_append_right (by omega),N]at hd;simpa using hd.symm
    have a2:y=e:=by rw[List.getElem?_append_right rl]at D;simpa using D.symm
    subst b4;subst a2;refine H _ _ (E.weak (fun c A=>A) (E.bound U))
theorem wpList_append_grow{A:Array Oper}{C:List Oper}{o:Oper}{a:Act}{D:Exit->Act->World->Prop}(E:El α)(a1:o.guard=none)(s x:Operand)(t:TypeId)
  (X:o.op= .call {callee:= .builtin .append,args:= #[s,x],argTypes:= #[t,t]})(i:TypeInfo)(z:Value)(j:Nat)(J:Tryz.prog.underlying t=some (.slice E.ty))(F:Tryz.prog.info? E.ty=some i)(Z:i.zero=some z)
  (G:i.size=E.sz)(V:i.bytes=j)(a3:z.cells.size=E.sz)(a2:0<E.sz)(a0:j<=1024)
  (B:Nat)(w W:World)(v:Value)(l:List α)(M:a.eval s=v)(hG:Hid (Grow E B w v l))(cs:List Value)(e:α)(hL:Hid (E.L (fun c=>B<=c/\v.ownBlock≠some c) w cs e))(Y:W=w.alloc (.cells cs.toArray E.ty))
  (K:a.eval x= .slice (some ⟨w.1.size,0,none⟩) 1 1)(U:l.length<=10000000)(H:B<=w.1.size)
  (h:∀g cap w',Hid (Grow E B w' (.slice (some ⟨g,0,none⟩) (l.length+1) cap) (l++[e]))->Hid (Below B w w')->w.1.size<w'.1.size->wpList Tryz.prog A D C (a.put o.dst (.slice (some ⟨g,0,none⟩) (l.length+1) cap)) w'):wpList Tryz.prog A D (o::C) a W:=
 wpList_plain a1 fun _ Q=>wp_append_grow E s x t X i z j J F Z G V a3 a2 a0 B w W v l M hG cs e hL Y K U H fun g cap w' S N R=>Q _ _ (h g cap w' S N R)
theorem step_append_grow{A:Array Oper}{o:Oper}{a:Act}{C:Act->World->Prop}{Y:Exit->Act->World->Prop}{X:Prop}(E:El α)(Z:o.guard=none)(s x:Operand)(t:TypeId)
  (R:o.op= .call {callee:= .builtin .append,args:= #[s,x],argTypes:= #[t,t]})(i:TypeInfo)(z:Value)(j:Nat)(H:Tryz.prog.underlying t=some (.slice E.ty))(D:Tryz.prog.info? E.ty=some i)(U:i.zero=some z)
  (F:i.size=E.sz)(Q:i.bytes=j)(a1:z.cells.size=E.sz)(a0:0<E.sz)(V:j<=1024)
  (B:Nat)(w W:World)(v:Value)(l:List α)(K:a.eval s=v)(hG:Hid (Grow E B w v l))(cs:List Value)(e:α)(hL:Hid (E.L (fun c=>B<=c/\v.ownBlock≠some c) w cs e))(S:W=w.alloc (.cells cs.toArray E.ty))
  (J:a.eval x= .slice (some ⟨w.1.size,0,none⟩) 1 1)(N:l.length<=10000000)(G:B<=w.1.size)
  (h:∀g cap w',Hid (Grow E B w' (.slice (some ⟨g,0,none⟩) (l.length+1) cap) (l++[e]))->Hid (Below B w w')->w.1.size<w'.1.size->C (a.put o.dst (.slice (some ⟨g,0,none⟩) (l.length+1) cap)) w'):if Region.wanted o (yielded A a.tmps)=true then Oper.wp Tryz.prog o a W C Y else X:=by
 have M:Region.wanted o (yielded A a.tmps)=true:=by simp[Region.wanted,Z]
 rw[if_pos M];exact wp_append_grow E s x t R i z j H D U F Q a1 a0 V B w W v l K hG cs e hL S J N G h
mutual
theorem StL.bound {ok:Nat->Prop} {w:World}:∀ {cs:List Value} {s:St},StL ok w cs s->StL (fun c=>ok c/\c<w.1.size) w cs s
 |cs,.mk k l c s t x y body els id sl ot lo,h=>by
  unfold StL at h ⊢
  obtain⟨cx,cy,a,a',cap,cap',h1,h2,h3,h4,h5,h6,h7⟩:=h
  exact⟨cx,cy,a,a',cap,cap',h1,h2.bound,h3.bound,h4,StsL.bound h5,h6,StsL.bound h7⟩
theorem StsL.bound {ok:Nat->Prop} {w:World}:∀ {a:Option Addr} {i:Nat} {l:List St},StsL ok w a i l->StsL (fun c=>ok c/\c<w.1.size) w a i l
 |_,_,[],_=>by unfold StsL;trivial
 |a,i,e::r,h=>by
  unfold StsL at h ⊢
  obtain⟨⟨b,off,cs,h1,h2,h3,h4⟩,h5⟩:=h
  have hb:b<w.1.size:=by
   have hl:=h4.cells.1
   exact World.block_lt_of_cellF w (h3 0 _ (List.getElem?_eq_getElem (by omega)))
  exact⟨⟨b,off,cs,h1,⟨h2,hb⟩,h3,StL.bound h4⟩,StsL.bound h5⟩
end
theorem DeL.bound{ok:Nat->Prop}{cs:List Value}{d:De}(h:DeL ok w cs d):DeL (fun c=>ok c/\c<w.1.size) w cs d:=by obtain⟨a,cap,A,j,g⟩:=h;exact⟨a,cap,A,j,g.bound⟩
theorem DeL.cells{ok:Nat->Prop}{cs:List Value}{d:De}(h:DeL ok w cs d):cs.length=6/\∀v∈cs,v.oneCell'=true:=by obtain⟨a,cap,rfl,-⟩:=h;refine⟨z,fun v g=>?_⟩;simp only[List.mem_cons,List.not_mem_nil,or_false]at g;rcases g with rfl|rfl|rfl|rfl|rfl|rfl<;>rfl
def elSt:El St:=⟨60,25,StL,fun h1 h2=>StL.keep h1 h2,fun h1 h2=>StL.weak h1 h2,fun h=>h.cells,fun h=>h.bound⟩
def elDe:El De:=⟨46,6,DeL,fun h1 h2=>DeL.keep h1 h2,fun h1 h2=>DeL.weak h1 h2,fun h=>h.cells,fun h=>h.bound⟩
theorem Grow.sts{B:Nat}{cap:Nat}{l:List St}(h:Grow elSt B w (.slice a n cap) l):StsL (B<=·) w a 0 l:=by refine StsL.mk fun j C=>?_;obtain⟨b,F,cs,A,E,g,D⟩:=h.at j (l.getD j default) (by rw[List.getD_eq_getElem?_getD,List.getElem?_eq_getElem C];rfl);exact⟨b,F,cs,A,E,by simpa [elSt]using g,D⟩
def DesS(ok:Nat->Prop)(w:World)(a:Option Addr)(l:List De):Prop:=∀j,j<l.length->∃ (b off:Nat) (cs:List Value),a=some ⟨b,off,none⟩/\ok b/\(∀ (t:Nat) (v:Value),cs[t]? =some v->w.cellF ⟨b,off+j*6+t,none⟩=some v)/\DeL (fun c=>ok c/\c≠b) w cs (l.getD j default)/\∀o,w.frozen? ⟨b,o,none⟩=false
theorem DesS.keep{ok:Nat->Prop}{w':World}(E:∀c,ok c->c<w.1.size->w'.1[c]? =w.1[c]?){l:List De}(h:DesS ok w a l):DesS ok w' a l:=fun j J=>by
 obtain⟨b,K,cs,H,A,C,D,G⟩:=h j J;have F:∀c o v,ok c->w.cellF ⟨c,o,none⟩=some v->w'.cellF ⟨c,o,none⟩=some v:=fun c o v h g=>by rw[<-g];simp only[World.cellF];rw[E c h (World.block_lt_of_cellF w g)]
 refine⟨b,K,cs,H,A,fun t v g=>F _ _ _ A (C t v g),D.keep fun c o v h g=>F c o v h.1 g,fun o=>?_⟩;have:=G o;simp only[World.frozen?]at this ⊢;rw[E b A (World.block_lt_of_cellF w (C 0 _ (List.getElem?_eq_getElem (by rw[D.cells.1];decide))))];exact this
theorem DesS.weak{ok ok':Nat->Prop}(g:∀b,ok b->ok' b){l:List De}(h:DesS ok w a l):DesS ok' w a l:=fun j F=>by obtain⟨b,J,cs,E,H,C,G,D⟩:=h j F;exact⟨b,J,cs,E,g _ H,C,DeL.weak (fun c A=>⟨g _ A.1,A.2⟩) G,D⟩
theorem DesS.des{ok:Nat->Prop}{l:List De}(h:DesS ok w a l):DesL ok w a l:=fun j C=>by obtain⟨b,G,cs,A,E,g,D,-⟩:=h j C;exact⟨b,G,cs,A,E,g,DeL.weak (fun c F=>F.1) D⟩
theorem Grow.dess{B:Nat}{cap:Nat}{l:List De}(h:Grow elDe B w (.slice a n cap) l):DesS (B<=·) w a l:=fun j D=>by obtain⟨b,G,cs,C,F,g,E,A⟩:=h.at2 j (l.getD j default) (by rw[List.getD_eq_getElem?_getD,List.getElem?_eq_getElem D];rfl);exact⟨b,G,cs,C,F,by simpa [elDe]using g,E,A⟩
theorem fold_set:∀ (cs:List Value) (n:Nat) (g:List Value),n+cs.length<=g.length->List.foldl (fun (a:Array Value) (x:Value×Nat)=>a.setIfInBounds x.2 x.1) g.toArray (cs.zipIdx n)=(g.take n++(cs++g.drop (n+cs.length))).toArray
 | [],n,g,_=>by simp
 |c::cs,n,g,h=>by
  have w:n<g.length:=by simp at h;omega
  have C:=fold_set cs (n+1) (g.set n c) (by simp at h ⊢;omega)
  rw[List.zipIdx_cons,List.foldl_cons]
  simp only[List.setIfInBounds_toArray]
  rw[C]
  congr 1
  have A:(g.set n c).take (n+1)=g.take n++[c]:=by
   rw[List.take_succ_eq_append_getElem (by simpa using w)]
   simp[List.take_set_of_le]
  have j:(g.set n c).drop (n+1+cs.length)=g.drop (n+(c::cs).length):=by
   rw[List.drop_set_of_lt (by omega)]
   congr 1
   simp
   omega
  rw[A,j]
  simp
theorem fold_cells(g:Array Value)(cs:List Value)(h:g.size=cs.length):List.foldl (fun (a:Array Value) (x:Value×Nat)=>a.setIfInBounds x.2 x.1) g cs.zipIdx=cs.toArray:=by have:=fold_set cs 0 g.toList (by simp[h]);rw[List.drop_eq_nil_of_le (by simp[h])]at this;simpa using this
def zSt:Array Value:= #[.int .i64 0,.int .i64 0,.int .i64 0,.string ⟨#[]⟩,.string ⟨#[]⟩,.int .i64 0,.int .i64 0,.string ⟨#[]⟩,.int .i64 0,.bool false,.int .i64 0,.slice none 0 0,.int .i64 0,.int .i64 0,.string ⟨#[]⟩,.int .i64 0,.bool false,.int .i64 0,.slice none 0 0,.slice none 0 0,.slice none 0 0,.int .i64 0,.int .i64 0,.int .i64 0,.bool false]
theorem info_el{T:TypeId}(h:(Tryz.prog.info? T).map (fun i=> (i.zero.map (fun z=>z.cells.size),i.size,decide (i.bytes<=1024)))=some (some n,n,true)):∃i z,Tryz.prog.info? T=some i/\i.zero=some z/\i.size=n/\z.cells.size=n/\i.bytes<=1024:=by obtain⟨i,D,g⟩:=Option.map_eq_some_iff.1 h;simp only[Prod.mk.injEq,decide_eq_true_eq]at g;obtain⟨j,E,w⟩:=g;obtain⟨z,A,C⟩:=Option.map_eq_some_iff.1 j;exact⟨i,z,D,A,E,C,w⟩
theorem infoSt:(Tryz.prog.info? 60).map (fun i=> (i.zero.map (fun z=>z.cells.size),i.size,decide (i.bytes<=1024)))=some (some 25,25,true):=by kernel_rfl
theorem infoDe:(Tryz.prog.info? 46).map (fun i=> (i.zero.map (fun z=>z.cells.size),i.size,decide (i.bytes<=1024)))=some (some 6,6,true):=by kernel_rfl
theorem Kp.to{a B:Nat}(h:Kp w w1 a b)(g:Below B w1 w2)(D:w.1.size<=B):Kp w w2 a b:=
 ⟨g.os.trans h.os,g.tape.trans h.tape,g.output.trans h.output,Nat.le_trans h.size g.size,fun k C j A=> (g.block k (by omega)).trans (h.block k C j A)⟩
theorem Rw.to(h:Rw w b S k)(C:Rw w1 b S j)(A:Kp w w1 b b)(g:Below w.1.size w1 w2):Rw w2 b S j:=
 h.fin C (A.to g rl) (g.block b h.lt)
theorem block_step{f:Nat}(a7:b≠0)(hS:∀g,g<=f->CS b S g):CB b S (f+1):=by
 intro w k R h hO a9 A;rw[pB]at A;obtain⟨i0,z0,b4,b9,c8,a4,a5⟩:=info_el infoSt;have Q:=h.lt;have HH:=O h;go_in;go_wp2_with fail;rcases hx:want S.T sBlO k with _| (j|⟨u,j⟩)
 .rw[hx]at A;cases A
 .rw[hx]at A;cases A;exact(want_any h sBlO hx).mono fun e W1 F=>by obtain⟨hk,rfl⟩:=F;exact⟨z,hk,z⟩
 rw[hx,andT_ok]at A;refine(want_any h sBlO hx).mono ?_;rintro e W1 ⟨a1,rfl,F⟩;have D:=O A;have E:=O (And.intro F a1);clear A F a1 hx h;go_wp2_with fail;go_loopg [3] f (fun x v wr=>∃ (g:Nat) (acc:List St) (i:Nat),x=g/\acc.length<=i/\g<=f/\Hid (pSs S.T g acc i=some R)/\Hid (Grow elSt w.1.size wr v acc)/\Hid (Rw wr b S i/\Kp w wr b b));case atStart=>exact⟨f,[],j,z,by simp,rl,D,O (Grow.nil _ _ _),E⟩
 case round=>
  clear D E;obtain⟨g0,acc,i,d0,d1,d9,D,HG,E⟩:=hrel;obtain⟨g,rfl⟩:∃g',g0=g'+1:=by
   cases g0 with
   |zero=>exact absurd D.o (by rw[pSs_zero];simp)
   |succ g=>exact⟨g,z⟩
  subst d0;have A:=D.o;rw[pSs]at A;obtain⟨a,cap,rfl,b5⟩:=HG.o.form;obtain⟨F,Y⟩:=E.o;go_wp2_with fail;refine(accept_any F sBlS).mono ?_;rintro e M ⟨U,rfl,C⟩;have G:=Y.trans U;have N:=O (HG.o.kp U Q Q);have e1:=Y.size;have d8:=U.size;obtain⟨m,W⟩:∃m,isT S.T i sBlS=m:=⟨_,z⟩;rw[W]at A C;rw[W];clear W U F Y E HG D;cases m
  .rw[if_neg Bool.false_ne_true]at A C;go_wp2_with fail;have a0:=hO.kp G a7;have X:=a9.kp G rl;rcases hx:pS S.T g i with _| (Z|⟨st,Z⟩)
   .rw[hx]at A;cases A
   .rw[hx]at A;cases A;apply (hS g (by omega) M i _ C a0 X hx).mono;rintro e K ⟨H,rfl⟩;exact⟨z,G.trans H,z⟩
   .rw[hx,andT_ok]at A;apply (hS g (by omega) M i _ C a0 X hx).mono;rintro e K ⟨H,⟨cs,rfl,hL⟩,V⟩;have d3:=(pS_adv S.T g).2.2 i st Z C.le hx;have e0:=C.mx;have J:=G.trans H;have a6:=O (N.kp H Q Q);have d6:=H.size;have hl:=hL.cells.1;have a2:(Value.slice a acc.length cap).ownBlock=none∨∃g,(Value.slice a acc.length cap).ownBlock=some g/\g<M.1.size:=by
     obtain⟨cells,-,h5,-⟩:=N.own;rcases ho:(Value.slice a acc.length cap).ownBlock with _|g
     .exact .inl z
     .exact .inr ⟨g,z,(h5.lt g ho).2⟩
    have HL:=O (show elSt.L (fun c=>w.1.size<=c/\(Value.slice a acc.length cap).ownBlock≠some c) K cs st from StL.weak (fun c hc=>by
     have d4:=hc;refine⟨by omega,fun e=>?_⟩;rcases a2 with h6|⟨g,h6,h7⟩
     .rw[h6]at e;cases e
     .rw[h6]at e;cases e;omega) hL)
    have E:=O (And.intro V J);have D:=O A;have d2:=fold_cells zSt cs (by rw[hl];rfl);unfold zSt at d2;clear hL V J H A hx a2 N C G a0 X;have a8:Tryz.prog.underlying 44=some (.slice 60):=by kernel_rfl
    have b6:acc.length<=10000000:=by omega
    have b7:w.1.size<=K.1.size:=by omega
    have HB:=O (And.intro d1 d3.1);go_wp2_with (at_builtin;refine wpList_append_grow elSt z (.tmp 13) (.tmp 16) 44 z i0 z0 _ a8 b4 b9 c8 z a4 (by decide) a5 w.1.size K _ (.slice a acc.length cap) acc z a6 cs st HL z z b6 b7 ?_;intro gb d5 W4 c9 b8 d7);go_roundg g;case measure=>omega
    case rel=> obtain⟨V,J⟩:=E;have a3:=b8.o;have:=HB.o;exact⟨g,acc++[st],Z,z,by simp;omega,by omega,D,c9,O (And.intro (HH.to V J a3) (J.to a3 rl))⟩
  .rw[if_pos rfl]at A C;cases A;go_wp2;go_ret;exact⟨G,⟨a,cap,z,b5,N.sts⟩,C⟩
theorem depths_le(n:Nat):∀l:List Ex,Ex.depths l<=n↔∀j,j<l.length->(l.getD j zEx).depth<=n
 | []=>by simp[Ex.depths]
 |e::r=>by
  rw[Ex.depths,Nat.max_le,depths_le n r]
  constructor
  .rintro⟨A,w⟩ j g
   cases j with
   |zero=>exact A
   |succ j=>simpa using w j (by simpa using g)
  .intro h
   exact⟨by simpa using h 0 (by simp),fun j g=>by simpa using h (j+1) (by simpa using g)⟩
def ExAt(w:World)(b off:Nat)(x:Ex):Prop:=∃cs:List Value,w.rangeAt b off cs/\ExL (fun _=>True) w cs x
theorem ExAt.args{k n:Int}{sl:Int}{lo:Bool}{o:Int}{args:List Ex}(h:ExAt w b g (.mk k n s sl lo o args)):
  ∃ (a:Option Addr) (cap:Nat),w.cell? ⟨b,g+6,none⟩=some (.slice a args.length cap)/\Roomy args.length cap/\∀j,j<args.length->∃b2 A,a=some ⟨b2,A,none⟩/\ExAt w b2 (A+j*7) (args.getD j zEx):=by
 obtain⟨cs,H,C⟩:=h;unfold ExL at C;obtain⟨a,cap,rfl,D,K⟩:=C;refine⟨a,cap,H 6 _ z,D,fun j F=>?_⟩;obtain⟨b2,A,cs,G,-,M,E⟩:=K.at j F;exact⟨b2,A,G,cs,fun t v J=>by simpa using M t v J,E⟩
theorem Ex.depth_le(x:Ex)(d:Nat):decide (x.depth<=d)=match x with| .mk _ _ _ _ _ _ args=>decide (1<=d)&&decide (Ex.depths args<=d-1):=by
 obtain⟨k,n,s,sl,lo,o,args⟩:=x;simp only[Ex.depth];cases d with
 |zero=>simp
 |succ d=>simp
theorem flat_any(w:World):∀ (d:Nat) (x:Ex) (b E:Nat),d<=24->ExAt w b E x->Calls Tryz.prog 77 #[.pointer (some ⟨b,E,none⟩),I d] w fun e w'=>e= .returned (.bool (decide (x.depth<=d)))/\w'=w:=by
 intro d;induction d with
 |zero=>
  intro x b E hd h;have J:¬x.depth<=0:=by obtain⟨k,n,s,sl,lo,o,args⟩:=x;simp[Ex.depth]
  rw[decide_eq_false J];go_in;go_wp2;go_ret;exact⟨z,z⟩
 |succ d X=>
  intro x b E hd h;obtain⟨k,n,s,sl,lo,o,args⟩:=x;obtain⟨a,cap,c6,G,U⟩:=h.args;rw[Ex.depth_le];obtain⟨r,C⟩:=eX ((decide (1<=d+1)&&decide (Ex.depths args<=d+1-1)));have N:r=decide (Ex.depths args<=d):=by rw[<-C];simp
  dsimp only;rw[C];have M:r=true↔∀j,j<args.length->(args.getD j zEx).depth<=d:=by rw[N,decide_eq_true_iff,depths_le]
  have S:=O M;have Y:¬ ((d+1:Nat):Int)<1:=by omega
  clear C N M;obtain⟨g,H⟩:=eX (args.length);rw[H]at c6 G U;have Q:=O H;clear H;go_in;go_wp2;go_loopg [13] g (fun x iv wr=>∃i:Nat,i<=g/\x=g-i/\iv=I i/\wr=w/\Hid (∀j,j<i->(args.getD j zEx).depth<=d));case atStart=>exact⟨0,Nat.zero_le _,z,z,z,fun j D=>absurd D (Nat.not_lt_zero j)⟩
  case round=>
   obtain⟨i,hi,rfl,rfl,rfl,R⟩:=hrel;by_cases V:i<g
   .have a0:(i:Int)< (g:Int):=by omega
    have a2:(0:Int)<=(i:Int):=by omega
    have a3:(i:Int)+1<=9223372036854775807:=by have Y:=G.1;have h2:=G.2;omega
    obtain⟨b2,Z,rfl,J⟩:=U i V;have K:=X (args.getD i zEx) b2 (Z+i*7) (by omega) J;have a1:(((d+1:Nat):Int)-1)=(d:Int):=by omega
    go_wp2_with fail;apply K.mono;rintro e w' ⟨rfl,rfl⟩;by_cases A:(args.getD i zEx).depth<=d
    .rw[decide_eq_true A];have W:Hid (∀j,j<i+1->(args.getD j zEx).depth<=d):=O (fun j D=>by
      by_cases h:j<i
      .exact R j h
      .obtain rfl:j=i:=by omega
       exact A)
     clear A K;go_wp2;go_roundg (g- (i+1));case measure=>omega
     case rel=>exact⟨i+1,by omega,z,z,z,W⟩
    .rw[decide_eq_false A];have F:r=false:=by
      cases C:r
      .rfl
      .exact absurd (S.1 C i (by rw[Q.o];exact V)) A
     subst F;clear A K;go_wp2;go_ret;exact⟨z,z⟩
   .have a0:¬ (i:Int)< (g:Int):=by omega
    have F:=S.2 (fun j D=>R j (by rw[Q.o]at D;omega));subst F;go_wp2;go_ret;exact⟨z,z⟩
def StAt(w:World)(b off:Nat)(s:St):Prop:=∃cs:List Value,w.rangeAt b off cs/\StL (fun _=>True) w cs s
def SlAt(w:World)(a:Option Addr)(cap:Nat)(l:List St):Prop:=Roomy l.length cap/\StsL (fun _=>True) w a 0 l
theorem SlAt.below{w':World}{cap:Nat}{l:List St}(h:SlAt w a cap l)(j:bL w w'):SlAt w' a cap l:=
 ⟨h.1,StsL.keep (fun b o v _ g=>by rw[<-g];simp[World.cellF,j.block b (World.block_lt_of_cellF w g)]) h.2⟩
theorem SlAt.at{cap:Nat}{l:List St}(h:SlAt w a cap l){s:St}(C:l[j]? =some s):∃b g,a=some ⟨b,g,none⟩/\StAt w b (g+j*25) s:=by
 have H:=(List.getElem?_eq_some_iff.1 C).1;obtain⟨b,g,cs,D,-,F,A⟩:=h.2.at j H;have G:l.getD j default=s:=by rw[List.getD_eq_getElem?_getD,C];rfl
 rw[G]at A;exact⟨b,g,D,cs,fun t v E=>by simpa using F t v E,A⟩
theorem StAt.parts{k l c:Int}{x y:Ex}{body els:List St}{id sl ot:Int}{lo:Bool}(h:StAt w b g (.mk k l c s t x y body els id sl ot lo)):
  w.cell? ⟨b,g,none⟩=some (I k)/\w.cell? ⟨b,g+1,none⟩=some (I l)/\w.cell? ⟨b,g+2,none⟩=some (I c)/\w.cell? ⟨b,g+3,none⟩=some (.string s)/\w.cell? ⟨b,g+4,none⟩=some (.string t)/\
   ExAt w b (g+5) x/\ExAt w b (g+12) y/\(∃a cap,w.cell? ⟨b,g+19,none⟩=some (.slice a body.length cap)/\SlAt w a cap body)/\∃a cap,w.cell? ⟨b,g+20,none⟩=some (.slice a els.length cap)/\SlAt w a cap els:=by
 obtain⟨cs,A,D⟩:=h;unfold StL at D;obtain⟨M,U,a,Q,cap,H,rfl,G,F,J,R,N,S⟩:=D;have lx:=G.cells.1;have E:=F.cells.1;refine⟨A 0 _ z,A 1 _ z,A 2 _ z,A 3 _ z,A 4 _ z,⟨M,fun j v C=>?_,G⟩,⟨U,fun j v C=>?_,F⟩,⟨a,cap,?_,J,R⟩,Q,H,?_,N,S⟩
 .have K:j<7:=by have:=(List.getElem?_eq_some_iff.1 C).1;omega
  have:=A (5+j) v (by rw[show 5+j=j+5 by omega];simp only[List.getElem?_cons_succ];rw[List.getElem?_append_left (by omega)];exact C)
  rwa [<-Nat.add_assoc]at this
 .have K:j<7:=by have:=(List.getElem?_eq_some_iff.1 C).1;omega
  have:=A (12+j) v (by rw[show 12+j=(7+j)+5 by omega];simp only[List.getElem?_cons_succ];rw[List.getElem?_append_right (by omega),lx,Nat.add_sub_cancel_left,List.getElem?_append_left (by omega)];exact C)
  rwa [<-Nat.add_assoc]at this
 .apply A 19;simp only[List.getElem?_cons_succ];rw[List.getElem?_append_right (by omega),lx,List.getElem?_append_right (by omega),E];rfl
 .apply A 20;simp only[List.getElem?_cons_succ];rw[List.getElem?_append_right (by omega),lx,List.getElem?_append_right (by omega),E];rfl
def deepV:Option (Int×Int)->Value
 |some p=> .tuple #[.agg #[.int .i64 p.1,.int .i64 p.2],.bool true]
 |none=> .tuple #[.agg #[.int .i64 0,.int .i64 0],.bool false]
theorem deeps_drop{l:List St}{s:St}(h:l[i]? =some s)(d:Nat):St.deeps (l.drop i) d=match s.deep d with|some p=>some p|none=>St.deeps (l.drop (i+1)) d:=by obtain⟨g,rfl⟩:=List.getElem?_eq_some_iff.1 h;rw[List.drop_eq_getElem_cons g,St.deeps];cases l[i].deep d<;>rfl
theorem end_pos{j:Func}{R:Ending->World->Prop}{s u:Tmp}{x y:Int}(h:Blk W b 32 [I x,I y])(C:j.results= #[.cell s 32,.tmp u])
  (H:A.tmps.getD s undef=Pt b)(G:A.tmps.getD u undef=v)(hd:A.defers=[])(F:R (.returned (.tuple #[.agg #[I x,I y],v])) W):bodyPost Tryz.prog j R .ret A W:=by
 have w:=h.cell 0;have g:=h.cell 1;simp only[List.getElem?_cons_zero,List.getElem?_cons_succ]at w g;have D:A.tmps[s]?.getD undef=Pt b:=by rw[<-H];simp
 have E:A.tmps[u]?.getD undef=v:=by rw[<-G];simp
 refine bodyPost_ret (v:= .tuple #[.agg #[I x,I y],v]) ?_ hd F;simp[results,C,go_sem,D,E,w,g]
def DeepOk(d:Nat):Prop:=∀ (l:List St) (a:Option Addr) (cap:Nat) (w:World),SlAt w a cap l->Calls Tryz.prog 33 #[.slice a l.length cap,.int .i64 (d:Int)] w fun e w'=>Below w.1.size w w'/\e= .returned (deepV (St.deeps l d))
theorem deep_step(d:Nat)(hd:d<=25)(ih:d+1<=25->DeepOk (d+1)):DeepOk d:=by
 intro l a cap w h;have d5:=Blk.new w 32 [I 0,I 0];have b6:bL w (w.alloc (.cells #[I 0,I 0] 32)):=(Below.refl _ w).alloc rl _;have h0:=h.below b6;have e0:(w.alloc (.cells #[I 0,I 0] 32)).1.size=w.1.size+1:=by simp
 have b9:=h.1;obtain⟨R,g⟩:=eX (St.deeps l d);obtain⟨K,hN⟩:=eX (l.length);rw[g];rw[hN]at b9 ⊢;have V:=O g;have HN:=O hN;have HE:=O (And.intro b6 (And.intro d5 h0));clear g hN b6 d5 h0 h;go_in;go_wp2;generalize w.alloc (.cells #[I 0,I 0] 32)=W0 at *;go_loopg [14] K (fun x iv wr=>∃i:Nat,i<=K/\x=K-i/\iv=I i/\Hid (bL w wr/\Blk wr w.1.size 32 [I 0,I 0]/\SlAt wr a cap l)/\Hid (St.deeps (l.drop i) d=R));case atStart=>exact⟨0,Nat.zero_le _,z,z,HE,V⟩
 case round=>
  clear HE V e0;obtain⟨i,hi,rfl,rfl,HE,V⟩:=hrel;obtain⟨G,j,M⟩:=HE;by_cases e4:i<K
  .have d7:(i:Int)< (K:Int):=by omega
   have e7:(0:Int)<=(i:Int):=by omega
   have e8:(i:Int)+1<=9223372036854775807:=by have M:=b9.1;have h2:=b9.2;omega
   obtain⟨s,hs⟩:∃s,l[i]? =some s:=⟨_,List.getElem?_eq_getElem (by rw[HN.o];exact e4)⟩;have g:=V.o;rw[deeps_drop hs]at g;obtain⟨b2,a8,rfl,d1⟩:=M.at hs;obtain⟨sk,sl,W,sn,sw,sx,sy,sb,se,f6,f7,f0,e6⟩:=s;obtain⟨-,p1,p2,-,-,hx,hy,⟨ab,e2,c8,a9⟩,ae,e3,a4,b8⟩:=d1.parts;have Y:=flat_any wr 24 sx b2 (a8+i*25+5) (by decide) hx;have a2:=flat_any wr 24 sy b2 (a8+i*25+12) (by decide) hy;unfold St.deep at g;have S:=O g;clear g d1 hx hy V;by_cases e1:d=25
   .subst e1;have D:=O (And.intro ((j.set1 0 (I sl)).set1 1 (I W)) ((G.setCell (p:=⟨w.1.size,0,none⟩) rl (I sl)).setCell (p:=⟨w.1.size,1,none⟩) rl (I W)));have g:=S.o;rw[if_pos (.inl (by decide))]at g;subst g;have z0:=j.cell 0;have z1:=j.cell 1;have g0:=j.frozen 0;have X:=j.frozen 1;clear j G M Y a2;go_wp2;exact end_pos D.1 z z z z ⟨D.2,z⟩
   have f2:decide ((24:Int)< (d:Int))=false:=by simp;omega
   have e9:¬ (24:Int)< (d:Int):=by omega
   go_wp2_with fail;apply a2.mono;rintro e w' ⟨rfl,rfl⟩;by_cases d4:sy.depth<=24
   .rw[decide_eq_true d4];clear a2;go_wp2_with fail;apply Y.mono;rintro e e5 ⟨rfl,rfl⟩;by_cases d3:sx.depth<=24
    .rw[decide_eq_true d3];clear Y;have g:=S.o;rw[if_neg (by omega)]at g;have d0:((d:Int)+1)=((d+1:Nat):Int):=by omega
     have b7:=ih (by omega) sb ab e2 _ a9;rw[<-d0]at b7;clear d0;have f4:(d:Int)+1<=9223372036854775807:=by omega
     have f3:(0:Int)<=(d:Int):=by omega
     go_wp2_with fail;apply b7.mono;rintro e H ⟨N,rfl⟩;have h2:=M.below N;have a0:=j.below N;have U:=G.trans (N.mono G.size);clear b7;have f5:=a0.lt;rcases hdb:St.deeps sb (d+1) with _|⟨C,pc⟩
     .rw[hdb]at g;have c9:=O g;unfold deepV;have E:bL H (H.alloc (.cells #[I 0,I 0] 32)):=(Below.refl _ H).alloc rl _;have h3:=h2.below E;have A:=a0.below E;have b4:=U.trans (E.mono U.size);have a7:=N.trans (E.mono N.size);have d8:=(a7.cell (p:=⟨b2,a8+i*25+20,none⟩) (World.block_lt_of_cell? _ _ a4)).trans a4;have d2:=b8.below a7;have b5:=ih (by omega) se ae e3 _ d2;rw[show (((d+1:Nat):Int))=(d:Int)+1 by omega]at b5;clear c8 a4 p1 p2 b8 a9 N E h2 a0 U a7 M j G;go_wp2_with fail;generalize H.alloc (.cells #[I 0,I 0] 32)=W3 at *;apply b5.mono;rintro e J ⟨a3,rfl⟩;have h4:=h3.below a3;have a1:=A.below a3;have Q:=b4.trans (a3.mono b4.size);have g:=c9.o;have f1:=a1.lt
      clear b5 a3 d8 d2 h3 A b4 c9 S;rcases hde:St.deeps se (d+1) with _|⟨C,pc⟩
      .rw[hde]at g;unfold deepV;have d9:=O g;have a5:bL J (J.alloc (.cells #[I 0,I 0] 32)):=(Below.refl _ J).alloc rl _;have d6:=O (And.intro (Q.trans (a5.mono Q.size)) (And.intro (a1.below a5) (h4.below a5)));clear h4 a1 Q a5 g hde hdb;go_wp2;go_roundg (K- (i+1));case measure=>omega
       case rel=>exact⟨i+1,by omega,z,z,d6,d9⟩
      .rw[hde]at g;unfold deepV;have A:=a1.alloc (.cells #[I C,I pc] 32);have E:=Q.alloc Q.size (.cells #[I C,I pc] 32);have F:=Blk.new J 32 [I C,I pc];have a6:J.1.size≠w.1.size:=by omega
       subst g;have Z:=O (And.intro A (And.intro E F));clear A E F a1 Q h4 hde hdb;go_upto_region 12 with fail;obtain⟨A,E,F⟩:=Z.o;clear Z;obtain⟨q,hq⟩:=eX (J.1.size);rw[hq]at F a6 ⊢;change Blk (J.alloc (.cells #[I C,I pc] 32)) q 32 [I C,I pc]at F;generalize J.alloc (.cells #[I C,I pc] 32)=W5 at *;have D:=O (And.intro ((A.set1 0 (I C)).set1 1 (I pc)) ((E.setCell (p:=⟨w.1.size,0,none⟩) rl (I C)).setCell (p:=⟨w.1.size,1,none⟩) rl (I pc)));have z0:=A.cell 0;have z1:=A.cell 1;have g0:=A.frozen 0;have X:=A.frozen 1;have y0:=F.cell 0;have y1:=F.cell 1;clear A E F;go_wp2;exact end_pos D.1 z z z z ⟨D.2,z⟩
     .rw[hdb]at g;unfold deepV;have A:=a0.alloc (.cells #[I C,I pc] 32);have E:=U.alloc U.size (.cells #[I C,I pc] 32);have F:=Blk.new H 32 [I C,I pc];have a6:H.1.size≠w.1.size:=by omega
      subst g;have Z:=O (And.intro A (And.intro E F));clear A E F a0 U h2 M j G N c8 a4 p1 p2 b8 a9 hdb S;go_upto_region 9 with fail;obtain⟨A,E,F⟩:=Z.o;clear Z;obtain⟨q,hq⟩:=eX (H.1.size);rw[hq]at F a6 ⊢;change Blk (H.alloc (.cells #[I C,I pc] 32)) q 32 [I C,I pc]at F;generalize H.alloc (.cells #[I C,I pc] 32)=W5 at *;have D:=O (And.intro ((A.set1 0 (I C)).set1 1 (I pc)) ((E.setCell (p:=⟨w.1.size,0,none⟩) rl (I C)).setCell (p:=⟨w.1.size,1,none⟩) rl (I pc)));have z0:=A.cell 0;have z1:=A.cell 1;have g0:=A.frozen 0;have X:=A.frozen 1;have y0:=F.cell;clear A E F;go_wp2;exact end_pos D.1 z z z z ⟨D.2,z⟩
    .rw[decide_eq_false d3];have D:=O (And.intro ((j.set1 0 (I sl)).set1 1 (I W)) ((G.setCell (p:=⟨w.1.size,0,none⟩) rl (I sl)).setCell (p:=⟨w.1.size,1,none⟩) rl (I W)));have g:=S.o;rw[if_pos (.inr (.inr (by omega)))]at g;subst g;have z0:=j.cell 0;have z1:=j.cell 1;have g0:=j.frozen 0;have X:=j.frozen 1;clear j G M Y;go_wp2;exact end_pos D.1 z z z z ⟨D.2,z⟩
   .rw[decide_eq_false d4];have D:=O (And.intro ((j.set1 0 (I sl)).set1 1 (I W)) ((G.setCell (p:=⟨w.1.size,0,none⟩) rl (I sl)).setCell (p:=⟨w.1.size,1,none⟩) rl (I W)));have g:=S.o;rw[if_pos (.inr (.inl (by omega)))]at g;subst g;have z0:=j.cell 0;have z1:=j.cell 1;have g0:=j.frozen 0;have X:=j.frozen 1;clear j G M Y a2;go_wp2;exact end_pos D.1 z z z z ⟨D.2,z⟩
  .obtain rfl:i=K:=by omega
   have d7:¬ (i:Int)< (i:Int):=by omega
   have g:=V.o;rw[List.drop_eq_nil_of_le (by rw[HN.o];exact Nat.le_refl _),St.deeps]at g;subst g;have D:=O (And.intro ((j.set1 0 (I 0)).set1 1 (I 0)) ((G.setCell (p:=⟨w.1.size,0,none⟩) rl (I 0)).setCell (p:=⟨w.1.size,1,none⟩) rl (I 0)));have z0:=j.cell;have g0:=j.frozen;clear j G M;go_wp2;exact end_pos D.1 z z z z ⟨D.2,z⟩
theorem deep_any:∀ (m d:Nat),d+m=25->DeepOk d:=by
 intro m;induction m with
 |zero=>
  intro d hd;exact deep_step d (by omega) (fun h=>absurd h (by omega))
 |succ m g=> intro d hd;exact deep_step d (by omega) (fun _=>g (d+1) (by omega))
theorem cells_det{o:Nat}{cs ds:List Value}(hc:cs.length=n)(hd:ds.length=n)(h:∀ (t:Nat) (v:Value),cs[t]? =some v->w.cellF ⟨b,o+t,none⟩=some v)(g:∀ (t:Nat) (v:Value),ds[t]? =some v->w.cellF ⟨b,o+t,none⟩=some v):cs=ds:=by
 refine List.ext_getElem? fun t=>?_;by_cases ht:t<n
 .have h1:=h t _ (List.getElem?_eq_getElem (by omega));have g1:=g t _ (List.getElem?_eq_getElem (by omega));rw[List.getElem?_eq_getElem (by omega),List.getElem?_eq_getElem (by omega)];exact h1.symm.trans g1
 .rw[List.getElem?_eq_none (by omega),List.getElem?_eq_none (by omega)]
mutual
theorem ExL.det {ok ok':Nat->Prop} {w:World}:∀ {cs:List Value} {x y:Ex},ExL ok w cs x->ExL ok' w cs y->x=y
 |cs,.mk k n s sl lo o args,.mk k' n' s' sl' lo' o' args',h,g=>by
  unfold ExL at h g
  obtain⟨a,cap,h1,-,h3⟩:=h
  obtain⟨a',cap',g1,-,g3⟩:=g
  rw[h1]at g1
  simp only[List.cons.injEq,Value.int.injEq,Value.string.injEq,Value.bool.injEq,Value.slice.injEq,and_true,true_and]at g1
  obtain⟨rfl,rfl,rfl,rfl,rfl,rfl,rfl,hl,-⟩:=g1
  rw[ExsL.det hl h3 g3]
theorem ExsL.det {ok ok':Nat->Prop} {w:World}:∀ {a:Option Addr} {i:Nat} {l m:List Ex},l.length=m.length->ExsL ok w a i l->ExsL ok' w a i m->l=m
 |_,_,[],[],_,_,_=>rfl
 |a,i,x::l,y::m,hl,h,g=>by
  unfold ExsL at h g
  obtain⟨⟨b,off,cs,rfl,-,h3,h4⟩,h5⟩:=h
  obtain⟨⟨b',off',cs',e,-,g3,g4⟩,g5⟩:=g
  cases e
  have e:=cells_det h4.cells.1 g4.cells.1 h3 g3
  subst e
  rw[ExL.det h4 g4,ExsL.det (by simpa using hl) h5 g5]
end
mutual
theorem StL.det {ok ok':Nat->Prop} {w:World}:∀ {cs:List Value} {x y:St},StL ok w cs x->StL ok' w cs y->x=y
 |cs,.mk k l c s t x y b e id sl ot lo,.mk k' l' c' s' t' x' y' b' e' id' sl' ot' lo',h,g=>by
  unfold StL at h g
  obtain⟨cx,cy,a,a',cap,cap',h1,h2,h3,-,h4,-,h5⟩:=h
  obtain⟨dx,dy,d,d',cp,cp',g1,g2,g3,-,g4,-,g5⟩:=g
  rw[h1]at g1
  simp only[List.cons.injEq,Value.int.injEq,Value.string.injEq,true_and]at g1
  obtain⟨rfl,rfl,rfl,rfl,rfl,g1⟩:=g1
  have l1:cx.length=dx.length:=h2.cells.1.trans g2.cells.1.symm
  have l2:cy.length=dy.length:=h3.cells.1.trans g3.cells.1.symm
  obtain⟨q1,q2⟩:=List.append_inj g1 l1
  obtain⟨q3,q4⟩:=List.append_inj q2 l2
  subst q1 q3
  simp only[List.cons.injEq,Value.int.injEq,Value.bool.injEq,Value.slice.injEq,and_true,true_and]at q4
  obtain⟨⟨rfl,e1,-⟩,⟨rfl,e2,-⟩,rfl,rfl,rfl,rfl⟩:=q4
  rw[ExL.det h2 g2,ExL.det h3 g3,StsL.det e1 h4 g4,StsL.det e2 h5 g5]
theorem StsL.det {ok ok':Nat->Prop} {w:World}:∀ {a:Option Addr} {i:Nat} {l m:List St},l.length=m.length->StsL ok w a i l->StsL ok' w a i m->l=m
 |_,_,[],[],_,_,_=>rfl
 |a,i,x::l,y::m,hl,h,g=>by
  unfold StsL at h g
  obtain⟨⟨b,off,cs,rfl,-,h3,h4⟩,h5⟩:=h
  obtain⟨⟨b',off',cs',e,-,g3,g4⟩,g5⟩:=g
  cases e
  have e:=cells_det h4.cells.1 g4.cells.1 h3 g3
  subst e
  rw[StL.det h4 g4,StsL.det (by simpa using hl) h5 g5]
end
end Go.Proofs.YtgppcdfgdaggjaaGreatDoor
