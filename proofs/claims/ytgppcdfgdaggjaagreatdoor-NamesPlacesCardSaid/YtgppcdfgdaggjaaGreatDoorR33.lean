/- Texts laid together. No condition but what each law says. -/
import Derived.Test.YtgppcdfgdaggjaaGreatDoorR49
import Derived.Test.YtgppcdfgdaggjaaGreatDoorR32
import Derived.Test.YtgppcdfgdaggjaaGreatDoorR31
import Derived.Laws.OwnMore
set_option maxRecDepth 100000
set_option maxHeartbeats 8000000
namespace Go.Proofs.YtgppcdfgdaggjaaGreatDoor
open Go.RowKit Go.Maps
variable {b g m n:Nat}{v:Value}{W w:World}
section
variable {α:Type} {E:El α} {B:Nat} {w w':World} {v:Value} {l:List α}
theorem cellF_grown{row:Option Nat}(g:w.grownBy w' row)(hr:∀r,row=some r->∃o:Obj,w.1[r]? =some o/\o.isCells=false)(b o:Nat)(u:Value)(hv:w.cellF ⟨b,o,none⟩=some u):w'.cellF ⟨b,o,none⟩=some u:=by
 have hne:some b≠row:=fun e=>by obtain⟨ob,h1,h2⟩:=hr b e.symm;obtain⟨C,ty,h3⟩:=World.cellF_shape hv;rw[h1]at h3;cases h3;cases h2
 exact(World.cellF_of (g.block b (World.block_lt_of_cellF w hv) hne) o).trans hv
theorem Grow.grown{row:Option Nat}(h:Grow E B w v l)(g:w.grownBy w' row)(hr:∀r,row=some r->∃o:Obj,w.1[r]? =some o/\o.isCells=false):Grow E B w' v l:=by
 obtain⟨cells,M,G,K⟩:=h.own;refine⟨cells,M,⟨G.1,?_⟩,fun i cs x j R=>?_⟩
 .rcases G.2 with A|⟨g1,cap,Q,A,C,D,N⟩
  .exact .inl A
  .refine .inr ⟨g1,cap,Q,A,C,(g.block g1 (Array.getElem?_eq_some_iff.1 D).1 fun e=>?_).trans D,N⟩;obtain⟨ob,h1,h2⟩:=hr g1 e.symm;rw[h1]at D;cases D;cases h2
 .exact E.weak (fun c j=>⟨j.1,Nat.lt_of_lt_of_le j.2 g.size⟩) (E.keep (fun b o v _ S=>cellF_grown g hr b o v S) (K i cs x j R))
theorem Blk.grown{row:Option Nat}{T:TypeId}{C:List Value}(h:Blk w b T C)(g:w.grownBy w' row)(hr:∀r,row=some r->∃o:Obj,w.1[r]? =some o/\o.isCells=false):Blk w' b T C:=by refine h.of (g.block b h.lt fun e=>?_);obtain⟨ob,h1,h2⟩:=hr b e.symm;unfold Blk at h;rw[h1]at h;cases h;cases h2
theorem ownsRow_sets{base:Nat}{e:TypeId}{size cap:Nat}:∀ (vs:List Value) (o:Nat) {w:World} {xs:List Value},w.ownsRow base e size (.slice (some ⟨g,0,none⟩) n cap) n xs->(w.setCells g o vs).ownsRow base e size (.slice (some ⟨g,0,none⟩) n cap) n (putAt xs o vs)
 | [],_,_,_,h=>h
 |v::l,o,w,xs,h=>by
  rw[World.setCells,putAt]
  exact ownsRow_sets l (o+1) (h.stored o v).1
theorem flatten_len:∀ (L:List (List Value)),(∀c∈L,c.length=n)->L.flatten.length=L.length*n
 | [],_=>by simp
 |c::L,h=>by
  rw[List.flatten_cons,List.length_append,flatten_len L fun d hd=>h d (by simp[hd]),h c (by simp),List.length_cons,Nat.succ_mul]
  omega
theorem Grow.setLast{cap:Nat}{x y:α}{cs:List Value}(h:Grow E B w (.slice (some ⟨g,0,none⟩) (l.length+1) cap) (l++[x]))(hL:E.L (fun c=> (B<=c/\c≠g)/\c<w.1.size) w cs y):
  Grow E B (w.setCells g (l.length*E.sz) cs) (.slice (some ⟨g,0,none⟩) (l.length+1) cap) (l++[y]):=by
 obtain⟨cells,M,G,K⟩:=h.own;have hlen:∀c∈cells,c.length=E.sz:=fun c A=>by obtain⟨i,R,rfl⟩:=List.mem_iff_getElem.1 A;exact(E.cells (K i _ _ (List.getElem?_eq_getElem R) (List.getElem?_eq_getElem (by omega)))).1
 have hM:cells.length=l.length+1:=by rw[M];simp
 obtain⟨c0,c1,rfl⟩:∃c0 c1,cells=c0++[c1]:=by
  have hne:cells≠[]:=fun e=>by rw[e]at hM;cases hM
  exact⟨_,_,(List.dropLast_concat_getLast hne).symm⟩
 have h0:c0.length=l.length:=by simpa using hM
 have h1:c1.length=E.sz:=hlen c1 (by simp);have hf:c0.flatten.length=l.length*E.sz:=by rw[flatten_len c0 fun c hc=>hlen c (by simp[hc]),h0]
 have hcs:=(E.cells hL).1;have hG:w.ownsRow B E.ty E.sz (.slice (some ⟨g,0,none⟩) (l.length+1) cap) (l.length+1) (c0.flatten++(c1++[])):=by simpa using G
 have hS:=ownsRow_sets cs (l.length*E.sz) hG;rw[<-hf,putAt_mid cs c1 c0.flatten [] (by rw[hcs,h1])]at hS;have hk:∀ (c o:Nat) (v:Value),c≠g->w.cellF ⟨c,o,none⟩=some v->(w.setCells g (l.length*E.sz) cs).cellF ⟨c,o,none⟩=some v:=fun c o v hc hv=> (World.cellF_of (heap_setCells hc _ _ _) o).trans hv;refine⟨c0++[cs],by simp[h0],?_,fun i ds z hi hz=>?_⟩
 .have e1:(c0++[cs]).flatten=c0.flatten++(cs++[]):=by simp
  rw[e1,<-hf];simpa using hS
 .have hob:∀c:Nat,((B<=c/\c≠g)/\c<w.1.size)->((B<=c/\(Value.slice (some ⟨g,0,none⟩) (l.length+1) cap).ownBlock≠some c)/\c< (w.setCells g (l.length*E.sz) cs).1.size):=fun c hc=>⟨⟨hc.1.1,fun e=>hc.1.2 (by simpa [Value.ownBlock]using e.symm)⟩,by rw[size_setCells];exact hc.2⟩;rcases Nat.lt_or_ge i l.length with hlt|hge
  .rw[List.getElem?_append_left (by omega)]at hi;rw[List.getElem?_append_left hlt]at hz;have h2:=K i ds z (by rw[List.getElem?_append_left (by omega)];exact hi) (by rw[List.getElem?_append_left hlt];exact hz);have h3:E.L (fun c=> (B<=c/\c≠g)/\c<w.1.size) w ds z:=E.weak (fun c hc=>⟨⟨hc.1.1,fun e=>hc.1.2 (by simp[Value.ownBlock,e])⟩,hc.2⟩) h2;exact E.weak hob (E.keep (fun b o v hb hv=>hk b o v hb.1.2 hv) h3)
  .have hil:i=l.length:=by have:=(List.getElem?_eq_some_iff.1 hz).1;simp at this;omega
   subst hil;rw[List.getElem?_append_right (by omega),h0]at hi;rw[List.getElem?_append_right (Nat.le_refl _)]at hz;obtain rfl:cs=ds:=by simpa using hi
   obtain rfl:y=z:=by simpa using hz
   exact E.weak hob (E.keep (fun b o v hb hv=>hk b o v hb.1.2 hv) hL)
theorem Grow.there{cap:Nat}(h:Grow E B w (.slice (some ⟨g,0,none⟩) m cap) l)(j:Nat)(hj:j<l.length):w.there g (j*E.sz) E.sz:=by obtain⟨x,hx⟩:∃x,l[j]? =some x:=⟨_,List.getElem?_eq_getElem hj⟩;obtain⟨b,H,cs,e,-,h1,h2,h3⟩:=h.at2 j x hx;cases e;intro t ht;have h4:=(E.cells h2).1;refine⟨?_,h3 _⟩;have:=World.cellF_cell (h1 t _ (List.getElem?_eq_getElem (by omega)));simp only[Nat.zero_add]at this;rw[this];rfl
end
def oB(b:Nat)(W:World)(k:Nat):Prop:=k=b∨∃a n c,W.cell? ⟨b,0,none⟩=some (.slice (some a) n c)/\a.block=k
structure Bxl (w:World) (b:Nat) (acc:List St) (W:World):Prop where
 x:∃v,Blk W b 44 [v]/\Grow elSt (b+1) W v acc
 lo:Below w.1.size w W
 le:w.1.size<=b
section
variable {w W W':World} {b:Nat} {acc:List St}
theorem oB_iff(h:Blk W b 44 [v])(hG:Grow elSt (b+1) W v acc)(k:Nat):oB b W k↔k=b∨v.ownBlock=some k:=by
 have hc:W.cell? ⟨b,0,none⟩=some v:=by rw[h.cell];rfl
 unfold oB;rw[hc];constructor
 .rintro(h|⟨a,n,c,h1,h2⟩)
  .exact .inl h
  .cases h1;exact .inr (by simp[Value.ownBlock,h2])
 .rintro(h|h)
  .exact .inl h
  .obtain⟨a,cap,rfl,-⟩:=hG.form;cases a with
   |none=>cases h
   |some a=>exact .inr ⟨a,_,_,z,by simpa [Value.ownBlock]using h⟩
theorem Bxl.lt(h:Bxl w b acc W)(k:Nat)(hk:oB b W k):k<W.1.size:=by
 obtain⟨v,h1,h2⟩:=h.x;rcases(oB_iff h1 h2 k).1 hk with rfl|h3
 .exact h1.lt
 .exact(h2.olt h3).2
theorem Bxl.lt2(h:Bxl w b acc W)(k:Nat)(hk:oB b W k):∃o:Obj,W.1[k]? =some o/\o.isCells=true:=by
 obtain⟨v,h1,h2⟩:=h.x;rcases(oB_iff h1 h2 k).1 hk with rfl|h3
 .exact⟨_,h1,z⟩
 .obtain⟨cells,-,hO,-⟩:=h2.own;rcases hO.2 with ⟨h6,-⟩|⟨g1,cap1,cur,h6,-,h7,-⟩
  .rw[h6]at h3;cases h3
  .rw[h6]at h3;have h8:g1=k:=by simpa [Value.ownBlock]using h3
   subst h8;exact⟨_,h7,z⟩
theorem Bxl.grown{row:Option Nat}{B0:Nat}(h:Bxl w b acc W)(g:W.grownBy W' row)(hB:w.1.size<=B0)(hr:∀r,row=some r->B0<=r/\∃o:Obj,W.1[r]? =some o/\o.isCells=false):Bxl w b acc W':=by obtain⟨v,h1,h2⟩:=h.x;refine⟨⟨v,h1.grown g fun r e=> (hr r e).2,h2.grown g fun r e=> (hr r e).2⟩,⟨g.os.trans h.lo.os,g.tape.trans h.lo.tape,g.output.trans h.lo.output,Nat.le_trans h.lo.size g.size,fun k hk=>?_⟩,h.le⟩;refine(g.block k (Nat.lt_of_lt_of_le hk h.lo.size) fun e=>?_).trans (h.lo.block k hk);have:=(hr k e.symm).1;omega
theorem Bxl.own{row:Option Nat}(h:Bxl w b acc W)(g:W.grownBy W' row)(hr:∀r,row=some r->∃o:Obj,W.1[r]? =some o/\o.isCells=false)(k:Nat)(hk:oB b W' k):oB b W k:=by obtain⟨v,h1,h2⟩:=h.x;exact(oB_iff h1 h2 k).2 ((oB_iff (h1.grown g hr) (h2.grown g hr) k).1 hk)
theorem Bxl.from(w:World)(b:Nat)(f:List Yv->List St)(B0:Nat)(hB:w.1.size<=B0):OwnFrom B0 (fun pre W=>Bxl w b (f pre) W):=fun _ _ _ _ h g hr=>h.grown g hB hr
theorem Bxl.ab(w:World)(b:Nat)(f:List Yv->List St)(B0:Nat):OwnAb B0 (oB b) (fun pre W=>Bxl w b (f pre) W):=fun _ _ _ _ h g hr k hk=>h.own g (fun r e=> (hr r e).2) k hk
theorem Bxl.push{B0:Nat}{X:World}{gb cap:Nat}{s:St}(h:Bxl w b acc W)(hv:Blk W b 44 [v])(hb:bL W X)(hs:X.1.size<=W'.1.size)(hgb:v.ownBlock=some gb∨X.1.size<=gb)(hk:∀k,k<X.1.size->k≠b->v.ownBlock≠some k->W'.1[k]? =X.1[k]?)(he:W'.os=X.os/\W'.tape=X.tape/\W'.output=X.output)
  (hB:Blk W' b 44 [.slice (some ⟨gb,0,none⟩) (acc.length+1) cap])(hG:Grow elSt (b+1) W' (.slice (some ⟨gb,0,none⟩) (acc.length+1) cap) (acc++[s])):Bxl w b (acc++[s]) W'/\Ko (oB b) W W'/\KeepsFrom B0 W W':=by
 obtain⟨v2,h1,h2⟩:=h.x;have e2:v2=v:=by unfold Blk at h1 hv;rw[h1]at hv;simpa using hv
 subst e2;have hol:∀k,v2.ownBlock=some k->b+1<=k:=fun k hk=> (h2.olt hk).1;have hsz:=hb.size;refine⟨⟨⟨_,hB,hG⟩,⟨he.1.trans (hb.os.trans h.lo.os),he.2.1.trans (hb.tape.trans h.lo.tape),he.2.2.trans (hb.output.trans h.lo.output),Nat.le_trans h.lo.size (Nat.le_trans hsz hs),fun k hk2=>?_⟩,h.le⟩,⟨Nat.le_trans hsz hs,fun k hk2 hno=>?_,fun k hko=>?_⟩,⟨Nat.le_trans hsz hs,fun k o _ hk2 ho=>?_⟩⟩
 .have hk3:=Nat.lt_of_lt_of_le hk2 h.lo.size;have:=h.le;exact(hk k (by omega) (by omega) (fun e=>by have:=hol k e;omega)).trans ((hb.block k hk3).trans (h.lo.block k hk2))
 .rw[oB_iff h1 h2]at hno;exact(hk k (by omega) (fun e=>hno (.inl e)) (fun e=>hno (.inr e))).trans (hb.block k hk2)
 .rcases(oB_iff hB hG k).1 hko with rfl|h3
  .exact .inl (.inl z)
  .have h4:gb=k:=by simpa [Value.ownBlock]using h3
   subst h4;rcases hgb with h5|h5
   .exact .inl ((oB_iff h1 h2 _).2 (.inr h5))
   .exact .inr (by omega)
 .have hk3:=(Array.getElem?_eq_some_iff.1 hk2).1;refine(hk k (by omega) (fun e=>?_) (fun e=>?_)).trans ((hb.block k hk3).trans hk2)
  .subst e;unfold Blk at h1;rw[hk2]at h1;cases h1;cases ho
  .obtain⟨cells,-,hO,-⟩:=h2.own;rcases hO.2 with ⟨h6,-⟩|⟨g1,cap1,cur,h6,-,h7,-⟩
   .rw[h6]at e;cases e
   .rw[h6]at e;have h8:g1=k:=by simpa [Value.ownBlock]using e
    subst h8;rw[hk2]at h7;cases h7;cases ho
end
section
variable {P:Program} {ops:Array Oper} {Q:Exit→Act→World→Prop} {n l:Nat} {a:Act} {w:World}
theorem opsR(hd:∀ (i:Nat) (o:Oper),ops[i]? =some o->isDefer o.op=false)(hL:¬LetsOut Q):∀ (is:List Nat) (a:Act) (w:World),wpOps P ops Q is a w->wpOpsIn (Fence.wide.inRound l) n P ops Q is a w
 | [],_,_,h=>h
 |i::is,a,w,h=>by
  rw[wpOpsIn_cons]
  rw[wpOps_cons]at h
  exact wpOpIn_of hd hL (wpOp_mono (fun a w h=>opsR hd hL is a w h) h)
theorem rL{id:Nat}{L:List Oper}(h:wpList P L.toArray Q L a w)(hd:L.toArray.all (fun o=>!isDefer o.op)=true:=by kernel_rfl)(hL:¬LetsOut Q:=by(intro h;obtain⟨_,_,h⟩:=h;exact h)):(Code.region id L.toArray false).wpIn (Fence.wide.inRound l) n P Q a w:=by
 refine wpIn_region ?_;refine opsR (fun i o hi=>by have:=Array.all_eq_true'.1 hd o (Array.mem_of_getElem? hi);simpa using this) hL _ _ _ ?_
 have e:L.toArray.size=L.length:=List.size_toArray;rw[List.range_eq_range',e,wpOps_eq_wpList L 0 (by simp)];exact h
end
structure Lp (b B0 b5:Nat) (x:Yv) (cs:List Value) (W:World):Prop where
 k:Blk W b5 60 cs
 ge:B0<=b5
 no:¬oB b W b5
 st:StL (fun c=> (B0<=c/\¬oB b W c)/\c≠b5) W cs x.2
 bx:∃v,Blk W b 44 [v]
theorem Lp.from(b B0 B1 b5:Nat)(x:Yv)(cs:List Value):OwnFrom B1 (fun (_:Unit) W=>Lp b B0 b5 x cs W):=fun _ A C row h g hr=>by
 obtain⟨v,hv⟩:=h.bx;have hr2:=fun r e=> (hr r e).2;have hv2:=hv.grown g hr2;have hc:C.cell? ⟨b,0,none⟩=A.cell? ⟨b,0,none⟩:=by rw[hv.cell,hv2.cell]
 have ho:∀k,oB b C k↔oB b A k:=fun k=>by unfold oB;rw[hc]
 exact⟨h.k.grown g hr2,h.ge,fun e=>h.no ((ho _).1 e),(h.st.keep fun b o v _ hv=>cellF_grown g hr2 b o v hv).weak fun c hc=>⟨⟨hc.1.1,fun e=>hc.1.2 ((ho _).1 e)⟩,hc.2⟩,v,hv2⟩
theorem Lp.drew{B0 b5:Nat}{x:Yv}{cs:List Value}(h:Lp b B0 b5 x cs W):Lp b B0 b5 x cs W.drew:=Lp.from b B0 0 b5 x cs () W W.drew none h (grown_below (Below.refl _ _).drew) (fun r e=>by cases e)
theorem Lp.new{W4 W5:World}{acc:List St}{B0:Nat}{x:Yv}{cs:List Value}{b5:Nat}{Z:List Value}(hB:Bxl w b acc W)(hs:W.1.size=b5)(h0:B0<=b5)(hst:StL (fun c=>B0<=c/\¬oB b W c) W cs x.2)(_k4:Blk W4 b5 60 Z)(b4:bL W W4)(k5:Blk W5 b5 60 cs)(c5:Ch b5 W4 W5):bL W W5/\Lp b B0 b5 x cs W5:=by
 obtain⟨v,hv,hG⟩:=hB.x;have h5:bL W W5:=c5.below (by omega) b4;have hg:=grown_below h5;have ho:=fun k=>hB.own hg (fun r e=>by cases e) k;refine⟨h5,k5,h0,fun e=>?_,?_,v,hv.below h5⟩
 .have:=hB.lt _ (ho _ e);omega
 .refine(hst.bound.keep fun b o v _ hv=>below_cell h5 b o v hv).weak fun c hc=>⟨⟨hc.1.1,fun e=>hc.1.2 (ho _ e)⟩,by have:=hc.2;omega⟩
theorem zSt_L{ok:Nat->Prop}:StL ok W zStC (mkSt 0 (0,0) noB noB zEx zEx [] []):=by unfold mkSt StL zStC;exact⟨[I 0,I 0,.string ⟨#[]⟩,I 0,.bool false,I 0,.slice none 0 0],[I 0,I 0,.string ⟨#[]⟩,I 0,.bool false,I 0,.slice none 0 0],none,none,0,0,z,⟨none,0,z,⟨Nat.le_refl _,by decide⟩,by unfold ExsL;trivial⟩,⟨none,0,z,⟨Nat.le_refl _,by decide⟩,by unfold ExsL;trivial⟩,⟨Nat.le_refl _,by decide⟩,by unfold StsL;trivial,⟨Nat.le_refl _,by decide⟩,by unfold StsL;trivial⟩
mutual
theorem wkS_deep (d:Nat):∀ (s:St) (x:Yv),x∈ (wkS d s).tail->(d:Int)<x.1
 | .mk k l c s t x y body els id sl ot lo,z,h=>by
  rw[wkS,List.tail_cons,List.mem_append]at h
  rcases h with h|h
  .have:=wkL_deep (d+1) body z h
   omega
  .have:=wkL_deep (d+1) els z h
   omega
theorem wkL_deep (d:Nat):∀ (l:List St) (x:Yv),x∈wkL d l->(d:Int)<=x.1
 | [],z,h=>by rw[wkL]at h;cases h
 |s::r,z,h=>by
  rw[wkL,List.mem_append]at h
  rcases h with h|h
  .by_cases ht:z∈ (wkS d s).tail
   .have:=wkS_deep d s z ht
    omega
   .obtain⟨k,l,c,s,t,x,y,body,els,id,sl,ot,lo⟩:=s
    rw[wkS]at h ht
    rcases List.mem_cons.1 h with rfl|h
    .exact Int.le_refl _
    .exact absurd h ht
  .exact wkL_deep d r z h
end
def top(l:List Yv):List St:=(l.filter fun x=>decide (x.1=1)).map Prod.snd
theorem top_snoc(l:List Yv)(x:Yv):top (l++[x])=if x.1=1 then top l++[x.2] else top l:=by unfold top;rw[List.filter_append,List.map_append];by_cases h:x.1=1<;>simp[h]
theorem top_wk:∀ (l:List St),top (wkL 1 l)=l
 | []=>rfl
 |s::r=>by
  have ih:=top_wk r
  have hd:=wkS_deep 1 s
  unfold top at ih ⊢
  rw[wkL,List.filter_append,List.map_append,ih]
  obtain⟨k,l,c,s,t,x,y,body,els,id,sl,ot,lo⟩:=s
  rw[wkS]at hd ⊢
  rw[List.tail_cons]at hd
  have hn:(wkL (1+1) body++wkL (1+1) els).filter (fun x=>decide (x.1=1))=[]:=by
   rw[List.filter_eq_nil_iff]
   intro z hz
   have:=hd z hz
   simp
   omega
  rw[List.filter_cons,if_pos (by simp),hn]
  rfl
theorem top_pre{l m:List Yv}(h:l<+:m):(top l).length<=(top m).length:=by obtain⟨r,rfl⟩:=h;unfold top;rw[List.filter_append,List.map_append,List.length_append];omega
theorem copyB_any(a:Option Addr)(cap:Nat)(args:List St)(HR:Roomy args.length cap)(b5:args.length<=10000000)(hs:St.szs args)(hn:St.cns args<=90000)(HL:StsL (fun _=>True) w a 0 args):
  Calls Tryz.prog 50 #[.slice a args.length cap] w fun e w'=>bL w w'/\∃a2 cap2,e= .returned (.slice a2 args.length cap2)/\Roomy args.length cap2/\StsL (w.1.size<=·) w' a2 0 args:=by
 obtain⟨i4,z4,f4,g4,h5⟩:=zero44;obtain⟨d9,h9,g2⟩:=under60;obtain⟨i6,z6,f6,g6,h6⟩:=zero60;have c9:Hid (Tryz.prog.underlying 44=some (.slice 60)):=O (by kernel_rfl);obtain⟨i0,z0,M,a0,V7,Z,a4⟩:=info_el infoSt;have h4:Tryz.prog.follows .mixedOrders=true:=by kernel_rfl
 have HC:Hid (∀W,bL w W->Calls Tryz.prog 87 #[.agg #[.int .i64 0,.int .i64 0,.int .i64 0,.string ⟨#[]⟩,.int .i64 0,.slice a args.length cap]] W (SmR W args)):=O fun W hb=>stmts_any _ _ _ _ _ a cap args HR b5 hs (StsL.keep (fun b o v _ hv=>below_cell hb b o v hv) HL);have HS:=O (And.intro hs hn);have HLN:=O fun _:True=>b5;obtain⟨C,hN⟩:=eX args.length;have HQ:=O hN;rw[hN];simp only[hN]at HC;clear hN HR b5 hs HL hn;refine callsIn_wide (n:=0)|>.1 ?_;refine callsIn_of_wp_marks Tryz.func50 z trivial ?_ z
 simp only[Tryz.ntmps50,List.size_toArray,List.length_cons,List.length_nil,Nat.reduceAdd,Nat.reduceSub,Array.replicate_succ,Array.replicate_zero,List.push_toArray,List.append_toArray,List.nil_append,List.cons_append];refine wpIn_wide.2 ?_;refine wk fun KK U=>?_;go_wp2_with fail;refine U.o _ _ ?_;clear U KK;obtain⟨b,hb⟩:=eX w.1.size;refine wk fun KK U=>?_;go_wp2_with (first
  | (with_reducible refine aa 3 (.alloc 44) ?_;refine wpList_alloc_blk f4 g4 h5 z z b hb ?_;intro W1 k1 b1 s1;have K1:=O k1;have B1:=O b1;clear k1 b1)
 )
 refine U.o _ _ ?_;clear U KK;have HBB:=O hb;clear hb;refine wk fun KK U=>?_;refine wk fun KL U2=>?_;have hc:=HC.o W1 B1.o;go_wp2_with fail;refine hc.mono ?_;clear hc;rintro e W2 ⟨hb,bt,ra,rc,rfl,hbt,hk,hr,ht⟩;have E2:Hid (bL W1 W2):=O hb;have HSQ:=stmts_seq (w:=W1) hbt hk hr ht HS.o.1 HS.o.2;clear hb hbt hk hr ht;go_wp2_with fail;refine U2.o _ _ ?_;clear U2 KL;go_wp2_with fail;refine(wpIn_wide (n:=0)).1 ?_;obtain⟨B0,hB0⟩:=eX W2.1.size;have hb0:Hid (b<B0):=O (by have:=E2.o.size;omega);have hX:Hid (Bxl w b [] W2):=O ⟨⟨_,K1.o.below E2.o,Grow.nil _ _ _⟩,B1.o.trans (E2.o.mono B1.o.size),Nat.le_of_eq HBB.o⟩;have hwB:w.1.size<=B0:=by have:=hb0.o;have:=HBB.o;omega
 refine wpIn_rangeFunc_O z (enters_of Tryz.func126 (by kernel_rfl) z) HSQ (Below.refl _ _) z (oB b) (fun pre W=>Bxl w b (top pre) W) (fun _ _ _=>False) (by rw[hB0];exact Bxl.from w b top B0 hwB) (fun _ _ _ _ _ h=>h.elim) hX.o ?_ (fun k hk=>hk.2) (fun pre A h k hk=>⟨h.lt k hk,fun _=>h.lt2 k hk⟩) (Bxl.ab w _ top _)
  (fun x cs a' W=>∃b5,Lp b B0 b5 x cs W/\a'={tmps:= #[.slice a C cap,undef,.slice none 0 0,Pt b,.int .i64 x.1,Pt b5,.slice a C cap,.agg #[.int .i64 0,.int .i64 0,.int .i64 0,.string ⟨#[]⟩,.int .i64 0,.slice a C cap],.func (.func 126) #[] #[Pt bt],.int .i64 x.1,.agg cs.toArray,undef,undef,undef,undef,undef,undef,undef,undef,undef],defers:=[]}) ?_ ?_ ?_ ?_ ?_
 .rintro k hk ⟨h1,h2⟩;rw[oB_iff (K1.o.below E2.o) (Grow.nil elSt _ _)]at hk;rcases hk with rfl|hk
  .have:=K1.o.lt;omega
  .cases hk
 .rintro x cs a' _ A C2 row ⟨b5,h1,h2⟩ hg hr;exact⟨b5,Lp.from b B0 _ b5 x cs () A C2 row h1 hg hr,h2⟩
 .intro l pre x cs W K hWs hBx hst hK;have HBx:=O hBx;have HST:=O hst;have HK:=O hK;have hcl:=O hst.cells;clear hBx hst hK;refine wpIn_seq_k fun K1 hK1=>?_;refine rL ?_;go_wp2_with fail;refine rL ?_;obtain⟨b5,hb5⟩:=eX W.1.size;have h05:Hid (B0<=b5):=O (by omega);go_wp2_with (first
   | (with_reducible refine aa 5 (.alloc 60) ?_;refine wpList_alloc_blk f6 g6 h6 z z b5 hb5 ?_;intro W4 k4 b4 s4;have K4:=O k4;have B4:=O b4;clear k4 b4 s4)
   | (with_reducible refine s0 60 ?_;refine wpList_store_ch info64 z (.tmp 5) (.tmp 10) z b5 cs _ z z K4.o z hcl.o ?_;intro W5 k5 c5;have K5:=O (And.intro k5 c5);clear k5 c5)
  )
  rw[hB0]at HST;have hlp:=Lp.new (B0:=B0) HBx.o hb5 h05.o HST.o K4.o B4.o K5.o.1 K5.o.2;exact HK.o _ _ hlp.1 ⟨b5,hlp.2,z⟩
 .rintro l pre x cs a' W hl hBx ⟨b5,hLp,rfl⟩ hpre;have HB:=O hBx;have HP:=O hLp;have hlen:Hid (True->(top pre).length<=10000000):=O fun _=>by have h1:=top_pre ((List.prefix_append pre [x]).trans hpre);rw[top_wk]at h1;exact Nat.le_trans h1 (HLN.o trivial)
  rw[hB0];have HT:=O (top_snoc pre x);clear hBx hLp hpre hl;refine wpIn_block ?_;refine wpIn_seq_k fun K1 hK1=>?_;refine rL ?_;by_cases hx:x.1=1
  .have HT2:=O (HT.o.trans (if_pos hx));have HX2:=O hx;rw[hx];clear hx HT;go_wp2_with fail;refine wpIn_cond_true z ?_;obtain⟨acc,hacc⟩:=eX (top pre);rw[hacc]at HB hlen HT2;clear hacc;obtain⟨v,hv,hG⟩:=HB.o.x;obtain⟨ga,gc,rfl,hroom⟩:=hG.form;clear hroom;obtain⟨V,hV⟩:=eX W.drew;have bV:Hid (bL W V):=O (by rw[<-hV];exact(Below.refl _ _).drew);have kV:Hid (Blk V b 44 [.slice ga acc.length gc]):=O (hv.below bV.o);have gV:Hid (Grow elSt (b+1) V (.slice ga acc.length gc) acc):=O (hG.below bV.o);have pV:Hid (Lp b B0 b5 x cs V):=O (by rw[<-hV];exact HP.o.drew);have hl0:=O HP.o.st.cells;have hno:Hid (b5≠b/\(Value.slice ga acc.length gc).ownBlock≠some b5):=O (by have h1:=HP.o.no;rw[oB_iff hv hG]at h1;exact⟨fun e=>h1 (.inl e),fun e=>h1 (.inr e)⟩)
   have hoV:Hid (∀k,¬oB b V k->k≠b/\(Value.slice ga acc.length gc).ownBlock≠some k):=O fun k h1=>by rw[oB_iff kV.o gV.o]at h1;exact⟨fun e=>h1 (.inl e),fun e=>h1 (.inr e)⟩
   have hv0:=O hv;have HS:Hid (V.cell? ⟨b,0,none⟩=some (.slice ga acc.length gc)/\V.rangeAt b5 0 cs):=O ⟨by rw[kV.o.cell];rfl,pV.o.k.whole⟩;obtain⟨N,hN⟩:=eX acc.length;have HN:=O hN;have i1:(0:Int)<=(N:Int):=by omega
   have i2:(N:Int)< ((N+1:Nat):Int):=by omega
   have i3:(N:Int)< (N:Int)+1:=by omega
   simp only[hN]at HS;clear hv hG hN;refine wpIn_region_round [4,5,6,7] (fun W=>W.cell? ⟨b,0,none⟩=some (.slice ga N gc)/\W.rangeAt b5 0 cs) h4 (by kernel_rfl) (fun h=>by obtain⟨_,_,h⟩:=h;exact h) ?_;rw[hV];clear hV;refine af (fun W=>W.cell? ⟨b,0,none⟩=some (.slice ga N gc)) 0 (fun W h=>h.1) ?_;refine tl 1 14 HS 60 5 b5 0 cs d9 (fun W h=>h.2) h9 g2 (by rw[hl0.o.1];exact info64) ?_;refine ag 2 ?_;refine nm ?_;refine oD 3 fun K F=>?_;refine wp_build1 (.const (.agg zStC.toArray)) z c9.o M a0 V7 Z (by decide) (by decide) _ zStC z z z ?_;intro Wb kb bb sb;have bW:Hid (bL V Wb):=O bb;have gW:Hid (Grow elSt (b+1) Wb (.slice ga acc.length gc) acc):=O (gV.o.below bb)
   have pW:Hid (Blk Wb b5 60 cs/\Blk Wb b 44 [.slice ga acc.length gc]):=O ⟨pV.o.k.below bb,kV.o.below bb⟩;have tW:Hid (StL (fun c=> ((B0<=c/\(c≠b/\(Value.slice ga acc.length gc).ownBlock≠some c))/\c≠b5)/\c<Wb.1.size) Wb cs x.2):=O (((pV.o.st.weak fun c hc=>⟨⟨hc.1.1,hoV.o c hc.1.2⟩,hc.2⟩).keep fun b o v _ hv=>below_cell bb b o v hv).bound);apply F _ _ (fun _=>⟨by rw[pW.o.2.cell,<-HN.o];rfl,pW.o.1.whole⟩);clear F K bb sb;refine oD 4 fun K F=>?_;refine wp_append_at elSt (.tmp 13) (.tmp 16) 44 z i0 z0 c9.o M a0 V7 Z (by decide) a4 (b+1) Wb (.slice ga acc.length gc) acc (by rw[HN.o];rfl) gW.o zStC (mkSt 0 (0,0) noB noB zEx zEx [] []) zSt_L _ 60 kb z (hlen.o trivial) pW.o.2.lt ?_
   intro gb capb W9 hg hb hk9 ho9;have E9:Hid (Grow elSt (b+1) W9 (.slice (some ⟨gb,0,none⟩) (acc.length+1) capb) (acc++[mkSt 0 (0,0) noB noB zEx zEx [] []])/\Below (b+1) Wb W9/\(∀c,c<Wb.1.size->(Value.slice ga acc.length gc).ownBlock≠some c->W9.1[c]? =Wb.1[c]?)/\((Value.slice ga acc.length gc).ownBlock=some gb∨gb=Wb.1.size)):=O ⟨hg,hb,hk9,ho9⟩;have hgb5:Hid (b5≠gb/\b≠gb):=O (by
    have h1:=pW.o.1.lt;have h2:=pW.o.2.lt;have h3:=hno.o.2;rcases ho9 with h|h
    .exact⟨fun e=>h3 (by rw[e];exact h),fun e=>by have:=(gW.o.olt h).1;omega⟩
    .exact⟨by omega,by omega⟩)
   have k9b:Hid (Blk W9 b 44 [.slice ga acc.length gc]):=O (pW.o.2.of (hb.block b (Nat.lt_succ_self _)));have t9:Hid (StL (fun c=> (b+1<=c/\c≠gb)/\c<W9.1.size) W9 cs x.2):=O ((tW.o.keep fun c o v hc hv=>by
    rw[<-hv];exact World.cellF_of (hk9 c hc.2 hc.1.1.2.2) o).weak fun c hc=>⟨⟨by have:=hc.1.1.1;have:=hb0.o;omega,fun e=>by
    rcases ho9 with h|h
    .exact hc.1.1.2.2 (by rw[e];exact h)
    .have:=hc.2;omega⟩,Nat.lt_of_lt_of_le hc.2 hb.size⟩)
   apply F _ _ nofun;clear F K kb hg hb hk9 ho9 gV pV kV;refine nm ?_;refine wpX_takeP 5 (some 18) (v:=?_) z z (by kernel_rfl) (fun _ _ _ h=>h) (Or.inl ⟨by rfl,?_⟩) ?_;rotate_left
   .intro N1 M1;clear M1;rw[HN.o];go_simp;first|with_reducible rfl|rw[if_neg (by omega)]
   refine nm ?_;have hth:Hid (W9.there gb (N*25) 25):=O (by rw[<-HN.o];exact E9.o.1.there acc.length (by simp))
   refine wpX_three [6,7] (by kernel_rfl) ?_ (by decide);intro i hi;simp only[List.mem_cons,List.not_mem_nil,or_false]at hi;rcases hi with rfl|rfl
   .refine⟨_,z,z,fun K F=>?_⟩;refine wp_store_mid 60 (.tmp 18) (.tmp 14) z gb (N*25) cs.toArray z z (by simp only[List.size_toArray,hl0.o.1];exact hth.o) (by rw[List.size_toArray,hl0.o.1];exact info64) (all_oneCell_toArray hl0.o.2) ?_;have gX:=E9.o.1.setLast (y:=x.2) t9.o;rw[show acc.length*elSt.sz=N*25 by rw[HN.o];rfl]at gX;obtain⟨X,hX⟩:=eX (W9.setCells gb (N*25) cs);rw[hX]at gX;have cX:Ch gb W9 X:=⟨_,_,hX.symm⟩;have EX:=O (And.intro gX cX);rw[show cs.toArray.toList=cs from rfl,hX];apply F _ _ nofun;clear F K gX cX hX;refine oD 7 fun K F=>?_
    refine wp_store_one (by kernel_rfl) (.tmp 3) (.tmp 17) z b 0 44 (.slice (some ⟨gb,0,none⟩) (acc.length+1) capb) _ z z z z (EX.o.2.blk hgb5.o.2 k9b.o) (by simp) ?_;intro X2 kX2 cX2;have E10:Hid (Bxl w b (acc++[x.2]) X2/\Ko (oB b) W X2/\KeepsFrom B0 W X2):=O (HB.o.push (B0:=B0) (X:=Wb) hv0.o (bV.o.trans (bW.o.mono bV.o.size)) (by rw[cX2.size,EX.o.2.size];exact E9.o.2.1.size) (E9.o.2.2.2.imp id fun h=>by omega) (fun k hk hkb hko=>by
      have h1:k≠gb:=by
       rcases E9.o.2.2.2 with h|h
       .rintro rfl;exact hko h
       .omega
      exact(cX2.hpc hkb).trans ((EX.o.2.hpc h1).trans (E9.o.2.2.1 k hk hko))) ⟨cX2.kp.os.trans (EX.o.2.kp.os.trans E9.o.2.1.os),cX2.kp.tape.trans (EX.o.2.kp.tape.trans E9.o.2.1.tape),cX2.kp.output.trans (EX.o.2.kp.output.trans E9.o.2.1.output)⟩ kX2 (cX2.grow EX.o.1 (Nat.lt_succ_self _)))
    apply F _ _ nofun;clear F K kX2 cX2 EX E9;simp only[Act.put];refine dn ?_;show KeepsFrom B0 W X2/\Ko (oB b) W X2/\Bxl w b (top (pre++[x])) X2;refine⟨E10.o.2.2,E10.o.2.1,?_⟩;rw[HT2.o];exact E10.o.1
   .refine⟨_,z,z,fun K F=>?_⟩;refine wp_store_one (by kernel_rfl) (.tmp 3) (.tmp 17) z b 0 44 (.slice (some ⟨gb,0,none⟩) (acc.length+1) capb) _ z z z z k9b.o (by simp) ?_;intro X kX cX;change K (Act.put _ none _) X;have EX:=O (And.intro kX (And.intro (cX.grow E9.o.1 (Nat.lt_succ_self _)) cX));have tX:Hid (StL (fun c=> (b+1<=c/\c≠gb)/\c<X.1.size) X cs x.2):=O ((t9.o.keep fun c o v hc hv=>by rw[cX.cellF (by have:=hc.1.1;omega)];exact hv).weak fun c hc=>⟨hc.1,by rw[cX.size];exact hc.2⟩)
    have hthX:Hid (X.there gb (N*25) 25):=O (by rw[<-HN.o];exact EX.o.2.1.there acc.length (by simp))
    apply F _ _ nofun;clear F K kX cX;refine oD 6 fun K F=>?_;refine wp_store_mid 60 (.tmp 18) (.tmp 14) z gb (N*25) cs.toArray z z (by simp only[List.size_toArray,hl0.o.1];exact hthX.o) (by rw[List.size_toArray,hl0.o.1];exact info64) (all_oneCell_toArray hl0.o.2) ?_;have gX:=EX.o.2.1.setLast (y:=x.2) tX.o;rw[show acc.length*elSt.sz=N*25 by rw[HN.o];rfl]at gX;obtain⟨X2,hX2⟩:=eX (X.setCells gb (N*25) cs);rw[hX2]at gX;have cX2:Ch gb X X2:=⟨_,_,hX2.symm⟩;rw[show cs.toArray.toList=cs from rfl,hX2]
    have E10:Hid (Bxl w b (acc++[x.2]) X2/\Ko (oB b) W X2/\KeepsFrom B0 W X2):=O (HB.o.push (B0:=B0) (X:=Wb) hv0.o (bV.o.trans (bW.o.mono bV.o.size)) (by rw[cX2.size,EX.o.2.2.size];exact E9.o.2.1.size) (E9.o.2.2.2.imp id fun h=>by omega) (fun k hk hkb hko=>by
      have h1:k≠gb:=by
       rcases E9.o.2.2.2 with h|h
       .rintro rfl;exact hko h
       .omega
      exact(cX2.hpc h1).trans ((EX.o.2.2.hpc hkb).trans (E9.o.2.2.1 k hk hko))) ⟨cX2.kp.os.trans (EX.o.2.2.kp.os.trans E9.o.2.1.os),cX2.kp.tape.trans (EX.o.2.2.kp.tape.trans E9.o.2.1.tape),cX2.kp.output.trans (EX.o.2.2.kp.output.trans E9.o.2.1.output)⟩ (cX2.blk hgb5.o.2 EX.o.1) gX)
    apply F _ _ nofun;clear F K gX cX2 hX2 EX E9;simp only[Act.put];refine dn ?_;show KeepsFrom B0 W X2/\Ko (oB b) W X2/\Bxl w b (top (pre++[x])) X2;refine⟨E10.o.2.2,E10.o.2.1,?_⟩;rw[HT2.o];exact E10.o.1
  .have HT2:=O (HT.o.trans (if_neg hx));have hx2:¬ (x.1:Int)=1:=hx;clear HT;go_wp2_with fail;have hbq:(x.1==1)=false:=by simpa using hx2
   refine wpIn_cond_false (congrArg Value.bool hbq) ?_;refine wpIn_skip ?_;show KeepsFrom B0 W W/\Ko (oB b) W W/\Bxl w b (top (pre++[x])) W;refine⟨KeepsFrom.refl _ _,⟨Nat.le_refl _,fun _ _ _=>z,fun _ h=> .inl h⟩,?_⟩;rw[HT2.o];exact HB.o
 .intro D W hD hI hK;have HI:=O hI;clear hI;rw[top_wk]at HI;obtain⟨v,hv,hG⟩:=HI.o.x;obtain⟨ra2,rc2,rfl,hrm⟩:=hG.form;have HG:=O (And.intro hrm hG);have hv0:W.cell? ⟨b,0,none⟩=some (.slice ra2 args.length rc2):=by rw[hv.cell];rfl
  have HD:=O (And.intro hD hK);clear hv hG hrm hD hK;go_wp2_with fail;refine U.o _ _ ?_;clear U KK;go_wp2_with fail;have hg:=grownBy_putObj' W D (.deferred none);have hr:∀r,some D=some r->B0<=r/\∃o:Obj,W.1[r]? =some o/\o.isCells=false:=fun r e=>by cases e;exact⟨by have:=HD.o.1;omega,_,HD.o.2,z⟩
  have hg2:=HG.o.2.grown hg fun r e=> (hr r e).2;refine⟨by simp,.inl ⟨_,_,z,run_takeDeferred HD.o.2,?_⟩⟩;refine⟨_,results_tmp z _ _ _,(HI.o.grown hg hwB hr).lo,ra2,rc2,?_,?_,StsL.weak (fun c hc=>by have:=HBB.o;show w.1.size<=c;omega) hg2.sts⟩
  .rw[<-HQ.o];rfl
  .rw[<-HQ.o];exact HG.o.1
 .intro D c pre W _ h;exact h.elim
theorem eqlIn_nil{P:Program}(w:World)(d:Nat)(t e:TypeId)(a:Option Addr)(n c n' c':Nat)(h:P.underlying t=some (.slice e)):(Op.equalIn (d+1) t (.slice a n c) (.slice none n' c')).run P w= .ok a.isNone w:=by cases a<;>simp[Op.equalIn,run_underlying h]
theorem eql_nil{P:Program}(w:World)(t e:TypeId)(a:Option Addr)(n c n' c':Nat)(h:P.underlying t=some (.slice e)):(binOp .eql t (.slice a n c) (.slice none n' c')).run P w= .ok (.bool a.isNone) w:=by simp only[binOp];simp[Op.equal,Op.maxDepth,eqlIn_nil w 9999 t e a n c n' c' h]
theorem Ro.flat{α:Type}{E:El α}{ok:Nat->Prop}{l:List α}(h:Ro E ok w v l):∃ (cells:List (List Value)) (a:Option Addr) (cap:Nat),v= .slice a l.length cap/\Roomy l.length cap/\cells.length=l.length/\(∀c∈cells,c.length=E.sz/\∀u∈c,u.oneCell'=true)/\(∀ (i:Nat) (cs:List Value) (x:α),cells[i]? =some cs->l[i]? =some x->E.L ok w cs x)/\
  (l≠[]->∃b off,a=some ⟨b,off,none⟩/\ok b/\∀ (i:Nat) (cs:List Value),cells[i]? =some cs->w.rangeF b (off+i*E.sz) cs):=by
 obtain⟨a,cap,hv,hr,hl⟩:=h;have hc:∀j:Fin l.length,∃cs,∃b off,a=some ⟨b,off,none⟩/\ok b/\w.rangeF b (off+j.val*E.sz) cs/\E.L ok w cs l[j.val]:=fun j=>by obtain⟨b,off,cs,h1,h2,h3,h4⟩:=hl j.val l[j.val] (List.getElem?_eq_getElem j.isLt);exact⟨cs,b,off,h1,h2,h3,h4⟩
 have hf:=fun j=>Classical.choose_spec (hc j);refine⟨List.ofFn fun j=>Classical.choose (hc j),a,cap,hv,hr,by simp,fun c hm=>?_,fun i cs x h1 h2=>?_,fun hne=>?_⟩
 .obtain⟨j,rfl⟩:=(List.mem_ofFn).1 hm;obtain⟨b,off,-,-,-,h4⟩:=hf j;exact E.cells h4
 .obtain⟨hi,rfl⟩:=List.getElem?_eq_some_iff.1 h2;have e:cs=Classical.choose (hc ⟨i,hi⟩):=by rw[List.getElem?_ofFn,dif_pos hi]at h1;exact(Option.some.inj h1).symm
  subst e;obtain⟨b,off,-,-,-,h4⟩:=hf ⟨i,hi⟩;exact h4
 .obtain⟨b,off,h1,h2,-,-⟩:=hf ⟨0,List.length_pos_iff.2 hne⟩;refine⟨b,off,h1,h2,fun i cs hi=>?_⟩;have hlt:i<l.length:=by have:=(List.getElem?_eq_some_iff.1 hi).1;simpa using this
  rw[List.getElem?_ofFn,dif_pos hlt]at hi;obtain⟨b2,off2,h3,-,h5,-⟩:=hf ⟨i,hlt⟩;rw[h1]at h3;cases h3;rw[<-Option.some.inj hi];exact h5
theorem flat_cells{off:Nat}:∀ (cells:List (List Value)),(∀c∈cells,c.length=n)->(∀ (i:Nat) (cs:List Value),cells[i]? =some cs->w.rangeF b (off+i*n) cs)->∀ (j:Nat) (u:Value),cells.flatten[j]? =some u->w.cell? ⟨b,off+j,none⟩=some u
 | [],_,_,j,u,h=>by simp at h
 |c::r,hl,hr,j,u,h=>by
  have hc:=hl c (by simp)
  rw[List.flatten_cons]at h
  rcases Nat.lt_or_ge j c.length with hj|hj
  .rw[List.getElem?_append_left hj]at h
   have:=World.cellF_cell (hr 0 c (by simp) j u h)
   simpa using this
  .rw[List.getElem?_append_right hj]at h
   have ih:=flat_cells (off:=off+n) r (fun d hd=>hl d (by simp[hd])) (fun i cs hi=>by
    have:=hr (i+1) cs (by simpa using hi)
    rw[Nat.succ_mul,<-Nat.add_assoc,Nat.add_right_comm]at this
    exact this) (j-c.length) u h
   rw[hc,show off+n+(j-n)=off+j by omega]at ih
   exact ih
def CloR(w:World)(ty:TypeId)(sz n:Nat)(xs:List Value)(e:Ending)(w':World):Prop:=bL w w'/\∃v,e= .returned v/\w'.ownsRow w.1.size ty sz v n xs
def CloC(F:FuncId){α:Type}(E:El α):Prop:=∀ (w:World) (ok:Nat->Prop) (v:Value) (l:List α),Ro E ok w v l->l.length<=10000000->∃cells:List (List Value),cells.length=l.length/\(∀ (i:Nat) (cs:List Value) (x:α),cells[i]? =some cs->l[i]? =some x->E.L ok w cs x)/\Calls Tryz.prog F #[v] w (CloR w E.ty E.sz l.length cells.flatten)
theorem clone47_none(w:World)(cap:Nat):Calls Tryz.prog 47 #[.slice none 0 cap] w (CloR w 2 1 0 []):=by
 have ht:Tryz.prog.underlying 23=some (.slice 2):=by kernel_rfl
 have hnil:=fun (w:World) (n c:Nat)=>eql_nil (P:=Tryz.prog) w 23 2 none n c 0 0 ht;simp only[Option.isNone_none]at hnil;go_enter Tryz.func47,Tryz.ntmps47;go_wp2;go_ret;exact⟨Below.refl _ _,_,z,World.ownsRow_nil _ _ _ _⟩
theorem clone47_zero(w:World)(p:Addr)(cap:Nat):Calls Tryz.prog 47 #[.slice (some p) 0 cap] w (CloR w 2 1 0 []):=by
 have ht:Tryz.prog.underlying 23=some (.slice 2):=by kernel_rfl
 have hnil:=fun (w:World) (n c:Nat)=>eql_nil (P:=Tryz.prog) w 23 2 (some p) n c 0 0 ht;simp only[Option.isNone_some]at hnil;go_enter Tryz.func47,Tryz.ntmps47;go_wp2;go_ret;exact⟨(Below.refl _ _).alloc (Nat.le_refl _) _,_,z,z,.inr ⟨w.1.size,0, #[],z,Nat.le_refl _,World.alloc_heap_new w (.cells #[] 2),Nat.le_refl _,by decide,z,z⟩⟩
theorem clone47_some{off cap:Nat}{xs:List Value}(hl:xs.length=n*1)(hx:∀j u,xs[j]? =some u->w.cell? ⟨b,off+j,none⟩=some u)(h1:∀u∈xs,u.oneCell'=true)(hn:0<n)(hN:n<=10000000):Calls Tryz.prog 47 #[.slice (some ⟨b,off,none⟩) n cap] w (CloR w 2 1 n xs):=by
 have ht:Tryz.prog.underlying 23=some (.slice 2):=by kernel_rfl
 obtain⟨i0,z0,M,a0,V7,Z,a4⟩:∃i z,Tryz.prog.info? 2=some i/\i.zero=some z/\i.size=1/\z.cells.size=1/\i.bytes<=1024:=info_el (by kernel_rfl);have hnil:=fun (w:World) (n c:Nat)=>eql_nil (P:=Tryz.prog) w 23 2 (some ⟨b,off,none⟩) n c 0 0 ht;simp only[Option.isNone_some]at hnil;have hB:bL w (w.alloc (.cells #[] 2)):=(Below.refl _ w).alloc (Nat.le_refl _) _;have hown:(w.alloc (.cells #[] 2)).ownsRow w.1.size 2 1 (.slice (some ⟨w.1.size,0,none⟩) 0 0) 0 []:=⟨rfl,.inr ⟨w.1.size,0, #[],rfl,Nat.le_refl _,World.alloc_heap_new w (.cells #[] 2),Nat.le_refl _,by decide,rfl,rfl⟩⟩;have hnews:∀j u,xs[j]? =some u->(w.alloc (.cells #[] 2)).cell? ((⟨b,off,none⟩:Addr).add j)=some u:=fun j u hj=>by rw[Addr.add_mid];exact below_cl hB _ _ _ (hx j u hj)
 have hmax:0+n<=maxLen:=by unfold maxLen;omega
 have hby:(0+n)*i0.bytes<=140737488355328:=by
  calc (0+n)*i0.bytes<=10000001*1024:=Nat.mul_le_mul (by omega) a4
  _<=140737488355328:=by decide
 have HH:=O (And.intro hown (And.intro hnews (And.intro hmax hby)));have HL:=O (And.intro hl h1);have HN:=O hn;clear hown hnews hmax hby hl h1 hx;go_enter Tryz.func47,Tryz.ntmps47;go_wp2_with (at_builtin;refine wpList_append_lies _ rfl (.tmp 5) (.tmp 6) 23 rfl w.1.size 2 i0 z0 1 i0.bytes ht M a0 V7 rfl Z (by decide) (.slice (some ⟨w.1.size,0,none⟩) 0 0) 0 [] rfl HH.o.1 ⟨b,off,none⟩ n cap xs rfl HL.o.1 HH.o.2.1 HL.o.2 HN.o HH.o.2.2.1 HH.o.2.2.2 hB.size _ rfl ?_;intro g2 cap2 w2 ho2 hg2 hl2 hlt2;have HO:=O ho2;have HG:=O hg2;clear ho2 hg2 hl2 hlt2);go_ret;refine⟨hB.grown HG.o hB.size (fun k e=>by cases e;exact Nat.le_refl _),_,rfl,?_⟩;have h:=HO.o;rw[Nat.zero_add,List.nil_append]at h
 simpa using h
theorem clone47:CloC 47 (elI 2):=fun w ok v l h hN=>by
 obtain⟨cells,a,cap,rfl,hr,hc,h1,h2,h3⟩:=h.flat;refine⟨cells,hc,h2,?_⟩;cases hl:l with
 |nil=>
  subst hl;obtain rfl:cells=[]:=List.length_eq_zero_iff.1 hc;cases a with
  |none=>exact clone47_none w cap
  |some p=>
   exact clone47_zero w p cap
 |cons x r=> obtain⟨b,off,rfl,-,h4⟩:=h3 (by rw[hl];simp);rw[<-hl];exact clone47_some (by rw[flatten_len _ fun c hm=> (h1 c hm).1,hc];rfl) (flat_cells cells (fun c hm=> (h1 c hm).1) h4) (fun u hu=>by obtain⟨c,hm,hu2⟩:=List.mem_flatten.1 hu;exact(h1 c hm).2 u hu2) (by rw[hl];simp) hN
theorem clone48_none(w:World)(cap:Nat):Calls Tryz.prog 48 #[.slice none 0 cap] w (CloR w 3 1 0 []):=by
 have ht:Tryz.prog.underlying 24=some (.slice 3):=by kernel_rfl
 have hnil:=fun (w:World) (n c:Nat)=>eql_nil (P:=Tryz.prog) w 24 3 none n c 0 0 ht;simp only[Option.isNone_none]at hnil;go_enter Tryz.func48,Tryz.ntmps48;go_wp2;go_ret;exact⟨Below.refl _ _,_,z,World.ownsRow_nil _ _ _ _⟩
theorem clone48_zero(w:World)(p:Addr)(cap:Nat):Calls Tryz.prog 48 #[.slice (some p) 0 cap] w (CloR w 3 1 0 []):=by
 have ht:Tryz.prog.underlying 24=some (.slice 3):=by kernel_rfl
 have hnil:=fun (w:World) (n c:Nat)=>eql_nil (P:=Tryz.prog) w 24 3 (some p) n c 0 0 ht;simp only[Option.isNone_some]at hnil;go_enter Tryz.func48,Tryz.ntmps48;go_wp2;go_ret;exact⟨(Below.refl _ _).alloc (Nat.le_refl _) _,_,z,z,.inr ⟨w.1.size,0, #[],z,Nat.le_refl _,World.alloc_heap_new w (.cells #[] 3),Nat.le_refl _,by decide,z,z⟩⟩
theorem clone48_some{off cap:Nat}{xs:List Value}(hl:xs.length=n*1)(hx:∀j u,xs[j]? =some u->w.cell? ⟨b,off+j,none⟩=some u)(h1:∀u∈xs,u.oneCell'=true)(hn:0<n)(hN:n<=10000000):Calls Tryz.prog 48 #[.slice (some ⟨b,off,none⟩) n cap] w (CloR w 3 1 n xs):=by
 have ht:Tryz.prog.underlying 24=some (.slice 3):=by kernel_rfl
 obtain⟨i0,z0,M,a0,V7,Z,a4⟩:∃i z,Tryz.prog.info? 3=some i/\i.zero=some z/\i.size=1/\z.cells.size=1/\i.bytes<=1024:=info_el (by kernel_rfl);have hnil:=fun (w:World) (n c:Nat)=>eql_nil (P:=Tryz.prog) w 24 3 (some ⟨b,off,none⟩) n c 0 0 ht;simp only[Option.isNone_some]at hnil;have hB:bL w (w.alloc (.cells #[] 3)):=(Below.refl _ w).alloc (Nat.le_refl _) _;have hown:(w.alloc (.cells #[] 3)).ownsRow w.1.size 3 1 (.slice (some ⟨w.1.size,0,none⟩) 0 0) 0 []:=⟨rfl,.inr ⟨w.1.size,0, #[],rfl,Nat.le_refl _,World.alloc_heap_new w (.cells #[] 3),Nat.le_refl _,by decide,rfl,rfl⟩⟩;have hnews:∀j u,xs[j]? =some u->(w.alloc (.cells #[] 3)).cell? ((⟨b,off,none⟩:Addr).add j)=some u:=fun j u hj=>by rw[Addr.add_mid];exact below_cl hB _ _ _ (hx j u hj)
 have hmax:0+n<=maxLen:=by unfold maxLen;omega
 have hby:(0+n)*i0.bytes<=140737488355328:=by
  calc (0+n)*i0.bytes<=10000001*1024:=Nat.mul_le_mul (by omega) a4
  _<=140737488355328:=by decide
 have HH:=O (And.intro hown (And.intro hnews (And.intro hmax hby)));have HL:=O (And.intro hl h1);have HN:=O hn;clear hown hnews hmax hby hl h1 hx;go_enter Tryz.func48,Tryz.ntmps48;go_wp2_with (at_builtin;refine wpList_append_lies _ rfl (.tmp 5) (.tmp 6) 24 rfl w.1.size 3 i0 z0 1 i0.bytes ht M a0 V7 rfl Z (by decide) (.slice (some ⟨w.1.size,0,none⟩) 0 0) 0 [] rfl HH.o.1 ⟨b,off,none⟩ n cap xs rfl HL.o.1 HH.o.2.1 HL.o.2 HN.o HH.o.2.2.1 HH.o.2.2.2 hB.size _ rfl ?_;intro g2 cap2 w2 ho2 hg2 hl2 hlt2;have HO:=O ho2;have HG:=O hg2;clear ho2 hg2 hl2 hlt2);go_ret;refine⟨hB.grown HG.o hB.size (fun k e=>by cases e;exact Nat.le_refl _),_,rfl,?_⟩;have h:=HO.o;rw[Nat.zero_add,List.nil_append]at h
 simpa using h
theorem clone48:CloC 48 (elI 3):=fun w ok v l h hN=>by
 obtain⟨cells,a,cap,rfl,hr,hc,h1,h2,h3⟩:=h.flat;refine⟨cells,hc,h2,?_⟩;cases hl:l with
 |nil=>
  subst hl;obtain rfl:cells=[]:=List.length_eq_zero_iff.1 hc;cases a with
  |none=>exact clone48_none w cap
  |some p=>
   exact clone48_zero w p cap
 |cons x r=> obtain⟨b,off,rfl,-,h4⟩:=h3 (by rw[hl];simp);rw[<-hl];exact clone48_some (by rw[flatten_len _ fun c hm=> (h1 c hm).1,hc];rfl) (flat_cells cells (fun c hm=> (h1 c hm).1) h4) (fun u hu=>by obtain⟨c,hm,hu2⟩:=List.mem_flatten.1 hu;exact(h1 c hm).2 u hu2) (by rw[hl];simp) hN
theorem clone49_none(w:World)(cap:Nat):Calls Tryz.prog 49 #[.slice none 0 cap] w (CloR w 71 3 0 []):=by
 have ht:Tryz.prog.underlying 25=some (.slice 71):=by kernel_rfl
 have hnil:=fun (w:World) (n c:Nat)=>eql_nil (P:=Tryz.prog) w 25 71 none n c 0 0 ht;simp only[Option.isNone_none]at hnil;go_enter Tryz.func49,Tryz.ntmps49;go_wp2;go_ret;exact⟨Below.refl _ _,_,z,World.ownsRow_nil _ _ _ _⟩
theorem clone49_zero(w:World)(p:Addr)(cap:Nat):Calls Tryz.prog 49 #[.slice (some p) 0 cap] w (CloR w 71 3 0 []):=by
 have ht:Tryz.prog.underlying 25=some (.slice 71):=by kernel_rfl
 have hnil:=fun (w:World) (n c:Nat)=>eql_nil (P:=Tryz.prog) w 25 71 (some p) n c 0 0 ht;simp only[Option.isNone_some]at hnil;go_enter Tryz.func49,Tryz.ntmps49;go_wp2;go_ret;exact⟨(Below.refl _ _).alloc (Nat.le_refl _) _,_,z,z,.inr ⟨w.1.size,0, #[],z,Nat.le_refl _,World.alloc_heap_new w (.cells #[] 71),Nat.le_refl _,by decide,z,z⟩⟩
theorem clone49_some{off cap:Nat}{xs:List Value}(hl:xs.length=n*3)(hx:∀j u,xs[j]? =some u->w.cell? ⟨b,off+j,none⟩=some u)(h1:∀u∈xs,u.oneCell'=true)(hn:0<n)(hN:n<=10000000):Calls Tryz.prog 49 #[.slice (some ⟨b,off,none⟩) n cap] w (CloR w 71 3 n xs):=by
 have ht:Tryz.prog.underlying 25=some (.slice 71):=by kernel_rfl
 obtain⟨i0,z0,M,a0,V7,Z,a4⟩:∃i z,Tryz.prog.info? 71=some i/\i.zero=some z/\i.size=3/\z.cells.size=3/\i.bytes<=1024:=info_el (by kernel_rfl);have hnil:=fun (w:World) (n c:Nat)=>eql_nil (P:=Tryz.prog) w 25 71 (some ⟨b,off,none⟩) n c 0 0 ht;simp only[Option.isNone_some]at hnil;have hB:bL w (w.alloc (.cells #[] 71)):=(Below.refl _ w).alloc (Nat.le_refl _) _;have hown:(w.alloc (.cells #[] 71)).ownsRow w.1.size 71 3 (.slice (some ⟨w.1.size,0,none⟩) 0 0) 0 []:=⟨rfl,.inr ⟨w.1.size,0, #[],rfl,Nat.le_refl _,World.alloc_heap_new w (.cells #[] 71),Nat.le_refl _,by decide,rfl,rfl⟩⟩;have hnews:∀j u,xs[j]? =some u->(w.alloc (.cells #[] 71)).cell? ((⟨b,off,none⟩:Addr).add j)=some u:=fun j u hj=>by rw[Addr.add_mid];exact below_cl hB _ _ _ (hx j u hj)
 have hmax:0+n<=maxLen:=by unfold maxLen;omega
 have hby:(0+n)*i0.bytes<=140737488355328:=by
  calc (0+n)*i0.bytes<=10000001*1024:=Nat.mul_le_mul (by omega) a4
  _<=140737488355328:=by decide
 have HH:=O (And.intro hown (And.intro hnews (And.intro hmax hby)));have HL:=O (And.intro hl h1);have HN:=O hn;clear hown hnews hmax hby hl h1 hx;go_enter Tryz.func49,Tryz.ntmps49;go_wp2_with (at_builtin;refine wpList_append_lies _ rfl (.tmp 5) (.tmp 6) 25 rfl w.1.size 71 i0 z0 3 i0.bytes ht M a0 V7 rfl Z (by decide) (.slice (some ⟨w.1.size,0,none⟩) 0 0) 0 [] rfl HH.o.1 ⟨b,off,none⟩ n cap xs rfl HL.o.1 HH.o.2.1 HL.o.2 HN.o HH.o.2.2.1 HH.o.2.2.2 hB.size _ rfl ?_;intro g2 cap2 w2 ho2 hg2 hl2 hlt2;have HO:=O ho2;have HG:=O hg2;clear ho2 hg2 hl2 hlt2);go_ret;refine⟨hB.grown HG.o hB.size (fun k e=>by cases e;exact Nat.le_refl _),_,rfl,?_⟩;have h:=HO.o;rw[Nat.zero_add,List.nil_append]at h
 simpa using h
theorem clone49:CloC 49 (elTh):=fun w ok v l h hN=>by
 obtain⟨cells,a,cap,rfl,hr,hc,h1,h2,h3⟩:=h.flat;refine⟨cells,hc,h2,?_⟩;cases hl:l with
 |nil=>
  subst hl;obtain rfl:cells=[]:=List.length_eq_zero_iff.1 hc;cases a with
  |none=>exact clone49_none w cap
  |some p=>
   exact clone49_zero w p cap
 |cons x r=> obtain⟨b,off,rfl,-,h4⟩:=h3 (by rw[hl];simp);rw[<-hl];exact clone49_some (by rw[flatten_len _ fun c hm=> (h1 c hm).1,hc];rfl) (flat_cells cells (fun c hm=> (h1 c hm).1) h4) (fun u hu=>by obtain⟨c,hm,hu2⟩:=List.mem_flatten.1 hu;exact(h1 c hm).2 u hu2) (by rw[hl];simp) hN
theorem clone51_none(w:World)(cap:Nat):Calls Tryz.prog 51 #[.slice none 0 cap] w (CloR w 9 1 0 []):=by
 have ht:Tryz.prog.underlying 26=some (.slice 9):=by kernel_rfl
 have hnil:=fun (w:World) (n c:Nat)=>eql_nil (P:=Tryz.prog) w 26 9 none n c 0 0 ht;simp only[Option.isNone_none]at hnil;go_enter Tryz.func51,Tryz.ntmps51;go_wp2;go_ret;exact⟨Below.refl _ _,_,z,World.ownsRow_nil _ _ _ _⟩
theorem clone51_zero(w:World)(p:Addr)(cap:Nat):Calls Tryz.prog 51 #[.slice (some p) 0 cap] w (CloR w 9 1 0 []):=by
 have ht:Tryz.prog.underlying 26=some (.slice 9):=by kernel_rfl
 have hnil:=fun (w:World) (n c:Nat)=>eql_nil (P:=Tryz.prog) w 26 9 (some p) n c 0 0 ht;simp only[Option.isNone_some]at hnil;go_enter Tryz.func51,Tryz.ntmps51;go_wp2;go_ret;exact⟨(Below.refl _ _).alloc (Nat.le_refl _) _,_,z,z,.inr ⟨w.1.size,0, #[],z,Nat.le_refl _,World.alloc_heap_new w (.cells #[] 9),Nat.le_refl _,by decide,z,z⟩⟩
theorem clone51_some{off cap:Nat}{xs:List Value}(hl:xs.length=n*1)(hx:∀j u,xs[j]? =some u->w.cell? ⟨b,off+j,none⟩=some u)(h1:∀u∈xs,u.oneCell'=true)(hn:0<n)(hN:n<=10000000):Calls Tryz.prog 51 #[.slice (some ⟨b,off,none⟩) n cap] w (CloR w 9 1 n xs):=by
 have ht:Tryz.prog.underlying 26=some (.slice 9):=by kernel_rfl
 obtain⟨i0,z0,M,a0,V7,Z,a4⟩:∃i z,Tryz.prog.info? 9=some i/\i.zero=some z/\i.size=1/\z.cells.size=1/\i.bytes<=1024:=info_el (by kernel_rfl);have hnil:=fun (w:World) (n c:Nat)=>eql_nil (P:=Tryz.prog) w 26 9 (some ⟨b,off,none⟩) n c 0 0 ht;simp only[Option.isNone_some]at hnil;have hB:bL w (w.alloc (.cells #[] 9)):=(Below.refl _ w).alloc (Nat.le_refl _) _;have hown:(w.alloc (.cells #[] 9)).ownsRow w.1.size 9 1 (.slice (some ⟨w.1.size,0,none⟩) 0 0) 0 []:=⟨rfl,.inr ⟨w.1.size,0, #[],rfl,Nat.le_refl _,World.alloc_heap_new w (.cells #[] 9),Nat.le_refl _,by decide,rfl,rfl⟩⟩;have hnews:∀j u,xs[j]? =some u->(w.alloc (.cells #[] 9)).cell? ((⟨b,off,none⟩:Addr).add j)=some u:=fun j u hj=>by rw[Addr.add_mid];exact below_cl hB _ _ _ (hx j u hj)
 have hmax:0+n<=maxLen:=by unfold maxLen;omega
 have hby:(0+n)*i0.bytes<=140737488355328:=by
  calc (0+n)*i0.bytes<=10000001*1024:=Nat.mul_le_mul (by omega) a4
  _<=140737488355328:=by decide
 have HH:=O (And.intro hown (And.intro hnews (And.intro hmax hby)));have HL:=O (And.intro hl h1);have HN:=O hn;clear hown hnews hmax hby hl h1 hx;go_enter Tryz.func51,Tryz.ntmps51;go_wp2_with (at_builtin;refine wpList_append_lies _ rfl (.tmp 5) (.tmp 6) 26 rfl w.1.size 9 i0 z0 1 i0.bytes ht M a0 V7 rfl Z (by decide) (.slice (some ⟨w.1.size,0,none⟩) 0 0) 0 [] rfl HH.o.1 ⟨b,off,none⟩ n cap xs rfl HL.o.1 HH.o.2.1 HL.o.2 HN.o HH.o.2.2.1 HH.o.2.2.2 hB.size _ rfl ?_;intro g2 cap2 w2 ho2 hg2 hl2 hlt2;have HO:=O ho2;have HG:=O hg2;clear ho2 hg2 hl2 hlt2);go_ret;refine⟨hB.grown HG.o hB.size (fun k e=>by cases e;exact Nat.le_refl _),_,rfl,?_⟩;have h:=HO.o;rw[Nat.zero_add,List.nil_append]at h
 simpa using h
theorem clone51:CloC 51 (elS):=fun w ok v l h hN=>by
 obtain⟨cells,a,cap,rfl,hr,hc,h1,h2,h3⟩:=h.flat;refine⟨cells,hc,h2,?_⟩;cases hl:l with
 |nil=>
  subst hl;obtain rfl:cells=[]:=List.length_eq_zero_iff.1 hc;cases a with
  |none=>exact clone51_none w cap
  |some p=>
   exact clone51_zero w p cap
 |cons x r=> obtain⟨b,off,rfl,-,h4⟩:=h3 (by rw[hl];simp);rw[<-hl];exact clone51_some (by rw[flatten_len _ fun c hm=> (h1 c hm).1,hc];rfl) (flat_cells cells (fun c hm=> (h1 c hm).1) h4) (fun u hu=>by obtain⟨c,hm,hu2⟩:=List.mem_flatten.1 hu;exact(h1 c hm).2 u hu2) (by rw[hl];simp) hN
end Go.Proofs.YtgppcdfgdaggjaaGreatDoor
