/- Texts laid together. No condition but what each law says. -/
import Derived.Test.YtgppcdfgdaggjaaGreatDoorR49
import Derived.Test.YtgppcdfgdaggjaaGreatDoorR22
import Derived.Test.YtgppcdfgdaggjaaGreatDoorR20
set_option maxRecDepth 100000
set_option maxHeartbeats 8000000
namespace Go.Proofs.YtgppcdfgdaggjaaGreatDoor
open Go.RowKit Go.Maps
variable {W w:World}{v v0 v1 v2 v3 v4:Value}{b g i j k m n:Nat}{a a0:Option Addr}{A:Act}{s t:ByteArray}{e:Ex}{l l2 l3:List Value}
instance:Inhabited Nm:=⟨⟨noB,0,0⟩⟩
def elI(ty:TypeId):El Int:=⟨ty,1,fun _ _ cs x=>cs=[.int .i64 x],fun _ h=>h,fun _ h=>h,fun h=>by
 subst h
 refine⟨z,fun v hv=>?_⟩
 simp only[List.mem_cons,List.not_mem_nil,or_false]at hv
 subst hv
 rfl,fun h=>h⟩
def elS:El ByteArray:=⟨9,1,fun _ _ cs x=>cs=[.string x],fun _ h=>h,fun _ h=>h,fun h=>by
 subst h
 refine⟨z,fun v hv=>?_⟩
 simp only[List.mem_cons,List.not_mem_nil,or_false]at hv
 subst hv
 rfl,fun h=>h⟩
def Th.L(ok:Nat->Prop)(w:World)(cs:List Value)(x:Th):Prop:=∃ (a:Option Addr) (cap:Nat),cs=[.string x.name,.int .i64 (x.locals:Int),.slice a x.body.length cap]/\Roomy x.body.length cap/\StsL ok w a 0 x.body
def elTh:El Th:=⟨71,3,Th.L,fun h1 ⟨a,cap,h2,h3,h4⟩=>⟨a,cap,h2,h3,h4.keep h1⟩,fun h1 ⟨a,cap,h2,h3,h4⟩=>⟨a,cap,h2,h3,h4.weak h1⟩,fun ⟨a,cap,h2,h3,h4⟩=>by
 subst h2
 refine⟨z,fun v hv=>?_⟩
 simp only[List.mem_cons,List.not_mem_nil,or_false]at hv
 rcases hv with rfl|rfl|rfl<;>rfl,fun ⟨a,cap,h2,h3,h4⟩=>⟨a,cap,h2,h3,h4.bound⟩⟩
variable {α:Type}
def Ro(E:El α)(ok:Nat->Prop)(w:World)(v:Value)(l:List α):Prop:=∃ (a:Option Addr) (cap:Nat),v= .slice a l.length cap/\Roomy l.length cap/\
 ∀j x,l[j]? =some x->∃ (b off:Nat) (cs:List Value),a=some ⟨b,off,none⟩/\ok b/\w.rangeF b (off+j*E.sz) cs/\E.L ok w cs x
theorem Ro.keep{E:El α}{ok:Nat->Prop}{w':World}{l:List α}(A:∀ (b o:Nat) (u:Value),ok b->w.cellF ⟨b,o,none⟩=some u->w'.cellF ⟨b,o,none⟩=some u)(h:Ro E ok w v l):Ro E ok w' v l:=by obtain⟨a,cap,M,G,F⟩:=h;refine⟨a,cap,M,G,fun j x N=>?_⟩;obtain⟨b,C,cs,K,g,J,H⟩:=F j x N;exact⟨b,C,cs,K,g,fun t u D=>A _ _ _ g (J t u D),E.keep A H⟩
theorem below_cl{w':World}(j:bL w w')(b o:Nat)(u:Value)(g:w.cell? ⟨b,o,none⟩=some u):w'.cell? ⟨b,o,none⟩=some u:=by rw[<-g];simp[World.cell?,j.block b (World.block_lt_of_cell? w _ g)]
theorem below_cell{w':World}(j:bL w w')(b o:Nat)(u:Value)(g:w.cellF ⟨b,o,none⟩=some u):w'.cellF ⟨b,o,none⟩=some u:=by rw[<-g];simp[World.cellF,j.block b (World.block_lt_of_cellF w g)]
theorem Ro.weak{E:El α}{ok ok':Nat->Prop}{l:List α}(g:∀b,ok b->ok' b)(h:Ro E ok w v l):Ro E ok' w v l:=by obtain⟨a,cap,K,F,C⟩:=h;refine⟨a,cap,K,F,fun j x M=>?_⟩;obtain⟨b,A,cs,J,D,H,G⟩:=C j x M;exact⟨b,A,cs,J,g _ D,H,E.weak g G⟩
theorem Ro.nil(E:El α)(ok:Nat->Prop)(w:World):Ro E ok w (.slice none 0 0) []:=⟨none,0,z,⟨rl,by decide⟩,fun j x g=>by simp at g⟩
theorem Ro.of{E:El α}{B:Nat}{l:List α}(h:Grow E B w v l):Ro E (B<=·) w v l:=by obtain⟨a,cap,rfl,D⟩:=h.form;refine⟨a,cap,z,D,fun j x H=>?_⟩;obtain⟨b,g,cs,A,G,C,F⟩:=h.at j x H;exact⟨b,g,cs,A,G,C,F⟩
structure PgL (ok:Nat->Prop) (w:World) (P:Pg) (v0 v1 v4 v5 n0 n1 n2 n3 n4:Value):Prop where
 vars:Ro (elI 2) ok w v0 P.vars
 arrays:Ro (elI 3) ok w v1 P.arrays
 chans:Ro (elI 3) ok w v4 P.chans
 threads:Ro elTh ok w v5 P.threads
 nv:Ro elS ok w n0 P.nv
 na:Ro elS ok w n1 P.na
 nm:Ro elS ok w n2 P.nm
 nc:Ro elS ok w n3 P.nc
 nh:Ro elS ok w n4 P.nh
theorem PgL.keep{ok:Nat->Prop}{w':World}{P:Pg}{n1 n2 n3 n4:Value}(g:∀ (b o:Nat) (u:Value),ok b->w.cellF ⟨b,o,none⟩=some u->w'.cellF ⟨b,o,none⟩=some u)(h:PgL ok w P v0 v1 v2 v3 v4 n1 n2 n3 n4):PgL ok w' P v0 v1 v2 v3 v4 n1 n2 n3 n4:=
 ⟨h.vars.keep g,h.arrays.keep g,h.chans.keep g,h.threads.keep g,h.nv.keep g,h.na.keep g,h.nm.keep g,h.nc.keep g,h.nh.keep g⟩
theorem PgL.weak{ok ok':Nat->Prop}{P:Pg}{n1 n2 n3 n4:Value}(g:∀b,ok b->ok' b)(h:PgL ok w P v0 v1 v2 v3 v4 n1 n2 n3 n4):PgL ok' w P v0 v1 v2 v3 v4 n1 n2 n3 n4:=
 ⟨h.vars.weak g,h.arrays.weak g,h.chans.weak g,h.threads.weak g,h.nv.weak g,h.na.weak g,h.nm.weak g,h.nc.weak g,h.nh.weak g⟩
def pgC(P:Pg)(v0 v1 v4 v5 n0 n1 n2 n3 n4:Value)(r:List Value):List Value:=v0::v1:: .int .i64 (P.mutexes:Int):: .int .i64 (P.conds:Int)::v4::v5:: .int .i64 (P.main:Int):: .int .i64 (P.stmts:Int)::n0::n1::n2::n3::n4::r
variable {α:Type}
theorem Ro.one{E:El α}{ok:Nat->Prop}{l:List α}(h:Ro E ok w v l):v.oneCell'=true:=by obtain⟨a,cap,rfl,-⟩:=h;rfl
theorem Below.setRow{B:Nat}{a:World}(g:B<=b):∀ (vs:List Value) (o:Nat) {w:World},Below B a w->Below B a (w.setCells b o vs)
 | [],_,_,h=>h
 |v::l,o,w,h=>by
  rw[World.setCells]
  exact Below.setRow g l (o+1) (h.setCell (p:=⟨b,o,none⟩) g v)
theorem size_setCells{r:Nat}:∀ (vs:List Value) (o:Nat) (w:World),(w.setCells r o vs).1.size=w.1.size
 | [],_,_=>rfl
 |v::l,o,w=>by
  rw[World.setCells,size_setCells l]
  simp
def Ch(b:Nat)(w w':World):Prop:=∃o vs,w'=w.setCells b o vs
section
variable {w w' w0:World} {b c:Nat}
theorem Ch.size(h:Ch b w w'):w'.1.size=w.1.size:=by obtain⟨o,vs,rfl⟩:=h;exact size_setCells _ _ _
theorem Ch.cellF(h:Ch b w w')(g:c≠b)(o:Nat):w'.cellF ⟨c,o,none⟩=w.cellF ⟨c,o,none⟩:=World.cellF_of (by obtain⟨_,vs,rfl⟩:=h;exact heap_setCells g _ _ _) o
theorem Ch.blk(h:Ch b w w')(g:c≠b){T:TypeId}{C:List Value}(j:Blk w c T C):Blk w' c T C:=by obtain⟨_,vs,rfl⟩:=h;exact j.of (heap_setCells g _ _ _)
theorem Ch.below(h:Ch b w w'){B:Nat}(g:B<=b)(j:Below B w0 w):Below B w0 w':=by obtain⟨_,vs,rfl⟩:=h;exact Below.setRow g _ _ j
theorem Ch.one(j:Nat)(v:Value)(w:World):Ch b w (w.setCell ⟨b,j,none⟩ v):=⟨j,[v],z⟩
end
theorem wp_alloc_blk{o:Oper}{a:Act}{j:Act->World->Prop}{G:Exit->Act->World->Prop}{T:TypeId}{i:TypeInfo}{z:Value}{C:List Value}(J:Tryz.prog.info? T=some i)(D:i.zero=some z)(F:z.cells=C.toArray)(A:o.op= .alloc T)
  (g:Nat)(K:w.1.size=g)(h:∀W,Blk W g T C->bL w W->W.1.size=g+1->j (a.put o.dst (Pt g)) W):Oper.wp Tryz.prog o a w j G:=by
 subst K;have H:=h (w.alloc (.cells C.toArray T)) (Blk.new w T C) ((Below.refl _ w).alloc rl _) (by simp);have E:(Instr.alloc T true (.tuple #[])).run Tryz.prog w= .ok (Pt w.1.size) (w.alloc (.cells C.toArray T)):=by simp only[Instr.alloc,zeroValue,newVar,newRow,Sem.run_bind,run_typeInfo _ J,Result.andThen_ok,D,Sem.run_pure,run_newObj_alloc,F]
 unfold Oper.wp execOp;simp only[A,Sem.run_bind,E,Result.andThen_ok];exact H
theorem wpList_alloc_blk{A:Array Oper}{D:List Oper}{o:Oper}{a:Act}{j:Exit->Act->World->Prop}{T:TypeId}{i:TypeInfo}{z:Value}{C:List Value}(H:Tryz.prog.info? T=some i)(E:i.zero=some z)(K:z.cells=C.toArray)(G:o.guard=none)(F:o.op= .alloc T)
  (g:Nat)(R:w.1.size=g)(h:∀W,Blk W g T C->bL w W->W.1.size=g+1->wpList Tryz.prog A j D (a.put o.dst (Pt g)) W):wpList Tryz.prog A j (o::D) a w:=
 wpList_plain G fun _ Q=>wp_alloc_blk H E K F g R fun W N M J=>Q _ _ (h W N M J)
theorem wpList_box_blk{A:Array Oper}{D:List Oper}{o:Oper}{a:Act}{j:Exit->Act->World->Prop}{T:TypeId}(F:o.guard=none)(x:Operand)(E:o.op= .box T x)(C:List Value)(G:(a.eval x).cells=C.toArray)
  (g:Nat)(K:w.1.size=g)(h:∀W,Blk W g T C->bL w W->W.1.size=g+1->wpList Tryz.prog A j D (a.put o.dst (Pt g)) W):wpList Tryz.prog A j (o::D) a w:=by
 subst K;refine wpList_plain F fun M J=>?_;have H:=J _ _ (h (w.alloc (.cells C.toArray T)) (Blk.new w T C) ((Below.refl _ w).alloc rl _) (by simp));unfold Oper.wp execOp;simp only[E,Sem.run_bind,Instr.box,newVar,newRow,run_newObj_alloc,Sem.run_pure,Result.andThen_ok,G];exact H
theorem wp_store_ch{o:Oper}{a:Act}{D:Act->World->Prop}{H:Exit->Act->World->Prop}{T:TypeId}(J:(Tryz.prog.info? T).map (·.size)=some n)(x y:Operand)(E:o.op= .store T x y)
  (b:Nat)(cs C:List Value)(F:a.eval x=Pt b)(G:a.eval y= .agg cs.toArray)(j:Blk w b T C)(A:C.length=n)(g:cs.length=n/\∀v∈cs,v.oneCell'=true)(h:∀W,Blk W b T cs->Ch b w W->D (a.put o.dst undef) W):Oper.wp Tryz.prog o a w D H:=
 wp_store_mid T x y E b 0 cs.toArray F G (j.there (by simp[A,g.1])) (by rw[J];simp[g.1]) (all_oneCell_toArray g.2) (by simpa using h _ (j.putAll (by rw[g.1,A])) ⟨0,cs,z⟩)
theorem wpList_store_ch{j:Array Oper}{A:List Oper}{o:Oper}{a:Act}{g:Exit->Act->World->Prop}{T:TypeId}(H:(Tryz.prog.info? T).map (·.size)=some n)(F:o.guard=none)(x y:Operand)(E:o.op= .store T x y)
  (b:Nat)(cs C:List Value)(G:a.eval x=Pt b)(M:a.eval y= .agg cs.toArray)(D:Blk w b T C)(K:C.length=n)(J:cs.length=n/\∀v∈cs,v.oneCell'=true)(h:∀W,Blk W b T cs->Ch b w W->wpList Tryz.prog j g A (a.put o.dst undef) W):wpList Tryz.prog j g (o::A) a w:=
 wpList_plain F fun _ R=>wp_store_ch H x y E b cs C G M D K J fun W Q N=>R _ _ (h W Q N)
theorem infoZ{T:TypeId}{C:List Value}(h:(Tryz.prog.info? T).map (fun i=>i.zero.map (fun z=>z.cells.toList))=some (some C)):∃i z,Tryz.prog.info? T=some i/\i.zero=some z/\z.cells=C.toArray:=by obtain⟨i,A,g⟩:=Option.map_eq_some_iff.1 h;obtain⟨z,w,j⟩:=Option.map_eq_some_iff.1 g;exact⟨i,z,A,w,by rw[<-j]⟩
def zExC:List Value:=[.int .i64 0,.int .i64 0,.string ⟨#[]⟩,.int .i64 0,.bool false,.int .i64 0,.slice none 0 0]
theorem zero58:∃i z,Tryz.prog.info? 58=some i/\i.zero=some z/\z.cells=zExC.toArray:=infoZ (by kernel_rfl)
def elEx:El Ex:=⟨58,7,ExL,fun h1 h2=>ExL.keep h1 h2,fun h1 h2=>ExL.weak h1 h2,fun h=>h.cells,fun h=>h.bound⟩
theorem Grow.exs{B:Nat}{cap:Nat}{l:List Ex}(h:Grow elEx B w (.slice a n cap) l):ExsL (B<=·) w a 0 l:=by refine ExsL.mk fun j F=>?_;obtain⟨b,g,cs,E,C,A,D⟩:=h.at j (l.getD j zEx) (by rw[List.getD_eq_getElem?_getD,List.getElem?_eq_getElem F];rfl);exact⟨b,g,cs,E,C,by simpa [elEx]using A,D⟩
theorem infoEx:(Tryz.prog.info? 58).map (fun i=> (i.zero.map (fun z=>z.cells.size),i.size,decide (i.bytes<=1024)))=some (some 7,7,true):=by kernel_rfl
theorem under58:∃d,Tryz.prog.underlying 58=some d/\d.isRow=true:=by
 have h:(Tryz.prog.underlying 58).map (·.isRow)=some true:=by kernel_rfl
 obtain⟨d,j,g⟩:=Option.map_eq_some_iff.1 h;exact⟨d,j,g⟩
theorem info58:(Tryz.prog.info? 58).map (·.size)=some 7:=by kernel_rfl
theorem ExL.sub{cs:List Value}{x:Ex}(h:ExL (fun _=>True) w cs x)(j:bL w W):ExL (fun _=>True) W cs x:=h.keep fun b o v _ g=>below_cell j b o v g
theorem Ch.grow{g:Type}{w':World}(h:Ch b w w'){E:El g}{B:Nat}{l:List g}(j:Grow E B w v l)(A:b<B):Grow E B w' v l:=j.keep (fun c _ C=>by obtain⟨_,vs,rfl⟩:=h;exact heap_setCells (by omega) _ _ _) (Nat.le_of_eq h.size.symm)
theorem wpX_takeD{P:Program}{g:Array Oper}{E:Exit->Act->World->Prop}{C:Region.Mode}{F:List Nat}{S:World->Prop}(i:Nat)(d:Option Tmp){G:Oper}{D:Array Bool}{a:Act}(J:g[i]? =some G)(hd:G.dst=d)
  (A:(Region.noSelect g&& (Region.free C g D i&& ((Region.ready C g D).contains i&& (waits2 C g F i&&closedB C g D))))=true)
  (M:∀c a w,E (.panic c) (a.put d v) w->E (.panic c) a w)(K:S w)(H:YieldsIf P g S G v a)
  (h:wpX P C g E F S j (D.setIfInBounds i true) (a.put d v) w):wpX P C g E F S (j+1) D a w:=by
 subst hd;simp only[Bool.and_eq_true]at A;exact wpX_take2 i J A.1 A.2.1 A.2.2.1 A.2.2.2.1 A.2.2.2.2 M K H h
theorem wpX_oneD{P:Program}{g:Array Oper}{F:Exit->Act->World->Prop}{C:Region.Mode}{D:List Nat}{S:World->Prop}{E:Array Bool}{a:Act}(i:Nat){o:Oper}(K:Region.ready C g E=[i])(H:g[i]? =some o)(J:o.guard=none)
  (h:∀A:Act->World->Prop,(∀G w',(D.contains i=false->S w')->wpX P C g F D S j (E.setIfInBounds i true) G w'->A G w')->o.wp P a w A F):wpX P C g F D S (j+1) E a w:=by
 refine wpX_one i K H fun A M=>?_;rw[if_pos (by simp[Region.wanted,J])];exact h A M
theorem wpX_three{P:Program}{C:Array Oper}{F:Exit->Act->World->Prop}{E:Region.Mode}{D:List Nat}{S:World->Prop}{G:Array Bool}{a:Act}(L:List Nat)(J:Region.ready E C G=L)
  (h:∀i∈L,∃o,C[i]? =some o/\o.guard=none/\∀K:Act->World->Prop,(∀A w',(D.contains i=false->S w')->wpX P E C F D S g (G.setIfInBounds i true) A w'->K A w')->o.wp P a w K F)(X:L≠[]):wpX P E C F D S (g+1) G a w:=by
 refine⟨fun N=>absurd (J.symm.trans N) X,fun j H=>?_⟩;rw[J]at H;obtain⟨o,Q,W,M⟩:=h j H;refine wpOp_step Q fun R Y=>?_;rw[if_pos (by simp[Region.wanted,W])];exact M R fun A w' U V=>Y A w' ⟨U,V⟩
section
variable {P:Program} {ops:Array Oper} {Q:Exit→Act→World→Prop} {md:Region.Mode} {late:List Nat} {S:World→Prop}
theorem tk(i:Nat)(d:Option Tmp){A:Oper}{g:Array Bool}{a:Act}(H:Hid (S w))
  (h:wpX P md ops Q late S j (g.setIfInBounds i true) (a.put d v) w)
  (F:ops[i]? =some A:=by rfl)(hd:A.dst=d:=by rfl)
  (D:(Region.noSelect ops&& (Region.free md ops g i&& ((Region.ready md ops g).contains i&& (waits2 md ops late i&&closedB md ops g))))=true:=by kernel_rfl)
  (J:∀c a w,Q (.panic c) (a.put d v) w->Q (.panic c) a w:=by exact fun _ _ _ h=>h)
  (E:Region.wanted A (yielded ops a.tmps)=true:=by rfl)
  (G:∀w',S w'->(execOp a.eval A).run P w'= .ok (.value v) w':=by intro K C;clear C;go_simp;first|with_reducible rfl|rw[if_neg (by omega)]):wpX P md ops Q late S (j+1) g a w:=
 wpX_takeD i d F hd D J H (Or.inl ⟨E,G⟩) h
theorem tf(F:World->Prop)(i:Nat)(d:Option Tmp){A:Oper}{g:Array Bool}{a:Act}(K:Hid (S w))(D:∀w,S w->F w)
  (h:wpX P md ops Q late S j (g.setIfInBounds i true) (a.put d v) w)
  (J:ops[i]? =some A:=by rfl)(hd:A.dst=d:=by rfl)
  (C:(Region.noSelect ops&& (Region.free md ops g i&& ((Region.ready md ops g).contains i&& (waits2 md ops late i&&closedB md ops g))))=true:=by kernel_rfl)
  (M:∀c a w,Q (.panic c) (a.put d v) w->Q (.panic c) a w:=by exact fun _ _ _ h=>h)
  (E:Region.wanted A (yielded ops a.tmps)=true:=by rfl)
  (H:∀w',F w'->(execOp a.eval A).run P w'= .ok (.value v) w':=by intro R N;go_simp;first|with_reducible rfl|rw[if_neg (by omega)]):wpX P md ops Q late S (j+1) g a w:=
 wpX_takeD i d J hd C M K (Or.inl ⟨E,fun w' G=>H w' (D w' G)⟩) h
theorem oD{g:Array Bool}{a:Act}(i:Nat){o:Oper}(h:∀C:Act->World->Prop,(∀A w',(late.contains i=false->S w')->wpX P md ops Q late S j (g.setIfInBounds i true) A w'->C A w')->o.wp P a w C Q)
  (F:Region.ready md ops g=[i]:=by kernel_rfl)(D:ops[i]? =some o:=by rfl)(E:o.guard=none:=by rfl):wpX P md ops Q late S (j+1) g a w:=wpX_oneD i F D E h
theorem tl(i:Nat)(t:Tmp){A:Oper}{g:Array Bool}{a:Act}(N:Hid (S w))(ty:TypeId)(x b o:Nat)(cs:List Value)(d:TypeDesc)(J:∀w,S w->w.rangeAt b o cs)
  (G:P.underlying ty=some d)(H:d.isRow=true)(K:(P.info? ty).map (·.size)=some cs.length)(h:wpX P md ops Q late S j (g.setIfInBounds i true) (a.put (some t) (.agg cs.toArray)) w)
  (M:ops[i]? =some A:=by rfl)(hd:A.dst=some t:=by rfl)(D:A.op= .load ty (.tmp x):=by rfl)(F:a.eval (.tmp x)= .pointer (some ⟨b,o,none⟩):=by rfl)
  (C:(Region.noSelect ops&& (Region.free md ops g i&& ((Region.ready md ops g).contains i&& (waits2 md ops late i&&closedB md ops g))))=true:=by kernel_rfl)
  (R:∀c a w,Q (.panic c) (a.put (some t) (.agg cs.toArray)) w->Q (.panic c) a w:=by exact fun _ _ _ h=>h)
  (E:Region.wanted A (yielded ops a.tmps)=true:=by rfl):wpX P md ops Q late S (j+1) g a w:=
 wpX_takeD i (some t) M hd C R N (yieldsIf_load_mid E ty (.tmp x) D b o F cs d J G H K) h
theorem nm{g:Array Bool}{a:Act}(h:wpX P md ops Q late S j g A w)(C:a=A:=by simp only[Act.put,List.setIfInBounds_toArray,List.set_cons_zero,List.set_cons_succ];rfl):wpX P md ops Q late S j g a w:=C▸h
end
variable {α:Type}
theorem wp_append_at{o:Oper}{a:Act}{U:Act->World->Prop}{a7:Exit->Act->World->Prop}(E:El α)(s x:Operand)(t:TypeId)
  (V:o.op= .call {callee:= .builtin .append,args:= #[s,x],argTypes:= #[t,t]})(i:TypeInfo)(z:Value)(W:Tryz.prog.underlying t=some (.slice E.ty))(hi:Tryz.prog.info? E.ty=some i)(hz:i.zero=some z)
  (a4:i.size=E.sz)(a8:z.cells.size=E.sz)(a0:0<E.sz)(a3:i.bytes<=1024)
  (B:Nat)(w:World)(v:Value)(l:List α)(hs:a.eval s=v)(hG:Grow E B w v l)(cs:List Value)(e:α)(S:E.L (fun c=>B<=c/\v.ownBlock≠some c) w cs e)(g0:Nat)(T:TypeId)(X:Blk w g0 T cs)
  (hx:a.eval x= .slice (some ⟨g0,0,none⟩) 1 1)(b4:l.length<=10000000)(hB:B<=w.1.size)
  (h:∀g cap w',Grow E B w' (.slice (some ⟨g,0,none⟩) (l.length+1) cap) (l++[e])->Below B w w'->(∀c,c<w.1.size->v.ownBlock≠some c->w'.1[c]? =w.1[c]?)->(v.ownBlock=some g∨g=w.1.size)->U (a.put o.dst (.slice (some ⟨g,0,none⟩) (l.length+1) cap)) w'):o.wp Tryz.prog a w U a7:=by
 obtain⟨cells,K,N,Y⟩:=hG;have A:=E.cells S;have Z:=N.lt;refine wp_append_lies w s x t V B E.ty i z E.sz i.bytes W hi hz a4 rfl a8 a0 v l.length cells.flatten hs N ⟨g0,0,none⟩ 1 1 cs hx (by rw[A.1,Nat.one_mul]) (fun j u G=>?_) A.2 (by decide) (by unfold maxLen;omega) ?_ hB _ rfl ?_
 .rw[Addr.add_mid,Nat.zero_add,X.cell];exact G
 .calc (l.length+1)*i.bytes<=10000001*1024:=Nat.mul_le_mul (by omega) a3
   _<=140737488355328:=by decide
 .intro g cap w' a6 C M b7;have b6:=C.size;have F:∀c,c<w.1.size->v.ownBlock≠some c->w'.1[c]? =w.1[c]? :=fun c b5 a2=>C.block c (by omega) (fun e=>a2 e.symm);refine h g cap w' ⟨cells++[cs],by simp[K],?_,?_⟩ ⟨C.os,C.tape,C.output,by omega,fun k hk=>F k (by omega) (fun e=>by have:=(Z k e).1;omega)⟩ F M
  .simpa using a6
  .intro j R y hd D;have J:∀ (d:List Value) (u:α),E.L (fun c=> (B<=c/\v.ownBlock≠some c)/\c<w.1.size) w d u->E.L (fun c=> (B<=c/\(Value.slice (some ⟨g,0,none⟩) (l.length+1) cap).ownBlock≠some c)/\c<w'.1.size) w' d u:=fun d u G=>
    E.weak (fun c A=>⟨⟨A.1.1,fun e=>by
     have e2:g=c:=by simpa [Value.ownBlock]using e
     subst e2;rcases M with Q|Q
     .exact A.1.2 Q
     .omega⟩,by omega⟩) (E.keep (fun b o v H hv=>by
      rw[<-hv];simp[World.cellF,F b H.2 H.1.2]) G)
   rcases Nat.lt_or_ge j l.length with hj|hj
   .rw[List.getElem?_append_left (by omega)]at hd D;exact J _ _ (Y j R y hd D)
   .have a9:j<l.length+1:=by have:=(List.getElem?_eq_some_iff.1 D).1;simpa using this
    obtain rfl:j=l.length:=by omega
    have a5:R=cs:=by rw[List.getElem?_append_right (by omega),K]at hd;simpa using hd.symm
    have a1:y=e:=by rw[List.getElem?_append_right rl]at D;simpa using D.symm
    subst a5;subst a1;refine J _ _ (E.bound S)
theorem wp_store_one{o:Oper}{a:Act}{A:Act->World->Prop}{K:Exit->Act->World->Prop}{T:TypeId}(N:(Tryz.prog.info? T).map (·.size)=some 1)(x y:Operand)(D:o.op= .store T x y)
  (b k:Nat)(j:TypeId)(v:Value)(C:List Value)(E:a.eval x= .pointer (some ⟨b,k,none⟩))(J:a.eval y=v)(H:v.cells= #[v])(M:v.oneCell'=true)(g:Blk w b j C)(Q:k<C.length)(h:∀W,Blk W b j (C.set k v)->Ch b w W->A (a.put o.dst undef) W):Oper.wp Tryz.prog o a w A K:=by
 have G:=run_storeVar_mid (P:=Tryz.prog) w b k T #[v] (g.there (by simp;omega)) (by rw[N];rfl) (by simpa using M);have F:(storeVar T ⟨b,k,none⟩ v).run Tryz.prog w= .ok () (w.setCell ⟨b,k,none⟩ v):=by
  have e:storeVar T ⟨b,k,none⟩ v=storeVar T ⟨b,k,none⟩ (.agg #[v]):=by unfold storeVar;rw[H];rfl
  rw[e,G];rfl
 unfold Oper.wp execOp;simp only[D,E,J,Instr.storeAt,Instr.sureAddr,Sem.run_bind,Sem.run_pure,Result.andThen_ok,F];exact h _ (g.set1 k v) (Ch.one k v w)
theorem wpList_store_one{D:Array Oper}{E:List Oper}{o:Oper}{a:Act}{A:Exit->Act->World->Prop}{T:TypeId}(K:(Tryz.prog.info? T).map (·.size)=some 1)(H:o.guard=none)(x y:Operand)(G:o.op= .store T x y)
  (b k:Nat)(g:TypeId)(v:Value)(C:List Value)(J:a.eval x= .pointer (some ⟨b,k,none⟩))(N:a.eval y=v)(M:v.cells= #[v])(j:v.oneCell'=true)(F:Blk w b g C)(R:k<C.length)(h:∀W,Blk W b g (C.set k v)->Ch b w W->wpList Tryz.prog D A E (a.put o.dst undef) W):wpList Tryz.prog D A (o::E) a w:=
 wpList_plain H fun _ S=>wp_store_one K x y G b k g v C J N M j F R fun W j Q=>S _ _ (h W j Q)
theorem wp_build1{o:Oper}{a:Act}{E:Act->World->Prop}{Q:Exit->Act->World->Prop}{t e:TypeId}(x:Operand)(F:o.op= .buildSlice t 1 #[(0,x)]){i:TypeInfo}{z:Value}(H:Tryz.prog.underlying t=some (.slice e))(S:Tryz.prog.info? e=some i)(G:i.zero=some z)(N:i.size=n)(X:z.cells.size=n)(U:0<n)(V:n<=1000)
  (v:Value)(cs:List Value)(J:a.eval x=v)(R:v.cells=cs.toArray)(g:cs.length=n)(h:∀W,Blk W w.1.size e cs->bL w W->W.1.size=w.1.size+1->E (a.put o.dst (.slice (some ⟨w.1.size,0,none⟩) 1 1)) W):o.wp Tryz.prog a w E Q:=by
 subst N;have A:Instr.fill (fun j=>some (j*i.size,i.size)) ((Array.range (1*i.size)).map (z.cells[· % z.cells.size]!)) [(0,v)]=some cs.toArray:=by have M:=fold_cells ((Array.range (1*i.size)).map (z.cells[· % z.cells.size]!)) cs (by simp[g]);simp only[Instr.fill,R];rw[if_neg (by simp[g])];simp only[Nat.zero_mul,Nat.zero_add];simpa using M
 have D:¬1*i.size>2^24:=by omega
 have C:¬1*i.size=0:=by omega
 have K:(Instr.buildSlice t 1 #[(0,v)]).run Tryz.prog w= .ok (.slice (some ⟨w.1.size,0,none⟩) 1 1) (w.alloc (.cells cs.toArray e)):=by simp only[Nat.one_mul]at A D C;simp[Instr.buildSlice,run_underlying H,sizeOf,typeInfo,zeroValue,S,G,D,C,A,newRow]
 unfold Oper.wp execOp;simp only[F,Sem.run_bind,List.map_toArray,List.map_cons,List.map_nil,J,K,Result.andThen_ok];exact h _ (Blk.new w e cs) ((Below.refl _ w).alloc rl _) (by simp)
theorem wpList_build1{A:Array Oper}{g:List Oper}{o:Oper}{a:Act}{j:Exit->Act->World->Prop}{t e:TypeId}(H:o.guard=none)(x:Operand)(C:o.op= .buildSlice t 1 #[(0,x)]){i:TypeInfo}{z:Value}(D:Tryz.prog.underlying t=some (.slice e))(K:Tryz.prog.info? e=some i)(G:i.zero=some z)(N:i.size=n)(X:z.cells.size=n)(J:0<n)(U:n<=1000)
  (v:Value)(cs:List Value)(M:a.eval x=v)(V:v.cells=cs.toArray)(S:cs.length=n)(h:∀W,Blk W w.1.size e cs->bL w W->W.1.size=w.1.size+1->wpList Tryz.prog A j g (a.put o.dst (.slice (some ⟨w.1.size,0,none⟩) 1 1)) W):wpList Tryz.prog A j (o::g) a w:=
 wpList_plain H fun _ R=>wp_build1 x C D K G N X J U v cs M V S fun W F Q E=>R _ _ (h W F Q E)
theorem wpList_append_at{C:Array Oper}{j:List Oper}{o:Oper}{a:Act}{A:Exit->Act->World->Prop}(E:El α)(N:o.guard=none)(s x:Operand)(t:TypeId)
  (D:o.op= .call {callee:= .builtin .append,args:= #[s,x],argTypes:= #[t,t]})(i:TypeInfo)(z:Value)(F:Tryz.prog.underlying t=some (.slice E.ty))(S:Tryz.prog.info? E.ty=some i)(M:i.zero=some z)
  (W:i.size=E.sz)(a0:z.cells.size=E.sz)(Q:0<E.sz)(U:i.bytes<=1024)
  (B:Nat)(w:World)(v:Value)(l:List α)(Z:a.eval s=v)(K:Grow E B w v l)(cs:List Value)(e:α)(hL:E.L (fun c=>B<=c/\v.ownBlock≠some c) w cs e)(g0:Nat)(T:TypeId)(G:Blk w g0 T cs)
  (V:a.eval x= .slice (some ⟨g0,0,none⟩) 1 1)(R:l.length<=10000000)(hB:B<=w.1.size)
  (h:∀g cap w',Grow E B w' (.slice (some ⟨g,0,none⟩) (l.length+1) cap) (l++[e])->Below B w w'->(∀c,c<w.1.size->v.ownBlock≠some c->w'.1[c]? =w.1[c]?)->(v.ownBlock=some g∨g=w.1.size)->wpList Tryz.prog C A j (a.put o.dst (.slice (some ⟨g,0,none⟩) (l.length+1) cap)) w'):wpList Tryz.prog C A (o::j) a w:=
 wpList_plain N fun _ Y=>wp_append_at E s x t D i z F S M W a0 Q U B w v l Z K cs e hL g0 T G V R hB fun g cap w' J X H h4=>Y _ _ (h g cap w' J X H h4)
theorem put_get{a:Act}{d:Tmp}(h:d<a.tmps.size):(a.put (some d) v).eval (.tmp d)=v:=by simp[Act.put,Act.eval,h]
theorem put_ne{a:Act}{d g:Tmp}(h:g≠d):(a.put (some d) v).eval (.tmp g)=a.eval (.tmp g):=by simp[Act.put,Act.eval,Array.getElem?_setIfInBounds_ne (Ne.symm h)]
theorem put_size(a:Act)(d:Tmp)(v:Value):(a.put (some d) v).tmps.size=a.tmps.size:=by simp[Act.put]
theorem put_comm{a:Act}{d g:Tmp}(h:d≠g):(a.put (some d) v).put (some g) v0=(a.put (some g) v0).put (some d) v:=by simp only[Act.put];rw[Array.setIfInBounds_comm _ _ h]
section
variable {P:Program} {ops:Array Oper} {Q:Exit→Act→World→Prop} {md:Region.Mode} {late:List Nat} {S:World→Prop}
theorem ag(i:Nat){o1:Oper}{d1:Option Tmp}{fuel:Nat}{listed:Array Bool}{a:Act}(h:wpX P md ops Q late S fuel (listed.setIfInBounds i true) (a.put d1 v1) w)(hS:Hid (S w):=by with_reducible assumption)
  (hi1:ops[i]? =some o1:=by rfl)(hd1:o1.dst=d1:=by(conv=>lhs;whnf)<;>rfl)(hb1:(Region.noSelect ops&& (Region.free md ops listed i&& ((Region.ready md ops listed).contains i&& (waits2 md ops late i&&closedB md ops listed))))=true:=by kernel_rfl)
  (hq1:∀c a w,Q (.panic c) (a.put d1 v1) w->Q (.panic c) a w:=by exact fun _ _ _ h=>h)(hg1:Region.wanted o1 (yielded ops a.tmps)=true:=by rfl)
  (hv1:∀w',S w'->(execOp a.eval o1).run P w'= .ok (.value v1) w':=by intro W1 hS1;clear hS1;go_simp;first|with_reducible rfl|rw[if_neg (by omega)])
  :wpX P md ops Q late S (fuel+1) listed a w:=wpX_takeD i d1 hi1 hd1 hb1 hq1 hS.o (Or.inl ⟨hg1,hv1⟩) h
theorem ak(i:Nat){o1 o2:Oper}{d1 d2:Option Tmp}{fuel:Nat}{listed:Array Bool}{a:Act}(h:wpX P md ops Q late S fuel ((listed.setIfInBounds i true).setIfInBounds (i+1) true) ((a.put d1 v1).put d2 v2) w)(hS:Hid (S w):=by with_reducible assumption)
  (hi1:ops[i]? =some o1:=by rfl)(hd1:o1.dst=d1:=by(conv=>lhs;whnf)<;>rfl)(hb1:(Region.noSelect ops&& (Region.free md ops listed i&& ((Region.ready md ops listed).contains i&& (waits2 md ops late i&&closedB md ops listed))))=true:=by kernel_rfl)
  (hq1:∀c a w,Q (.panic c) (a.put d1 v1) w->Q (.panic c) a w:=by exact fun _ _ _ h=>h)(hg1:Region.wanted o1 (yielded ops a.tmps)=true:=by rfl)
  (hv1:∀w',S w'->(execOp a.eval o1).run P w'= .ok (.value v1) w':=by intro W1 hS1;clear hS1;go_simp;first|with_reducible rfl|rw[if_neg (by omega)])
  (hi2:ops[(i+1)]? =some o2:=by rfl)(hd2:o2.dst=d2:=by(conv=>lhs;whnf)<;>rfl)(hb2:(Region.noSelect ops&& (Region.free md ops (listed.setIfInBounds i true) (i+1)&& ((Region.ready md ops (listed.setIfInBounds i true)).contains (i+1)&& (waits2 md ops late (i+1)&&closedB md ops (listed.setIfInBounds i true)))))=true:=by kernel_rfl)
  (hq2:∀c a w,Q (.panic c) (a.put d2 v2) w->Q (.panic c) a w:=by exact fun _ _ _ h=>h)(hg2:Region.wanted o2 (yielded ops (a.put d1 v1).tmps)=true:=by rfl)
  (hv2:∀w',S w'->(execOp (a.put d1 v1).eval o2).run P w'= .ok (.value v2) w':=by intro W1 hS1;clear hS1;go_simp;first|with_reducible rfl|rw[if_neg (by omega)])
  :wpX P md ops Q late S (fuel+1+1) listed a w:=wpX_takeD i d1 hi1 hd1 hb1 hq1 hS.o (Or.inl ⟨hg1,hv1⟩) (wpX_takeD (i+1) d2 hi2 hd2 hb2 hq2 hS.o (Or.inl ⟨hg2,hv2⟩) h)
theorem ai(i:Nat){o1 o2 o3:Oper}{d1 d2 d3:Option Tmp}{fuel:Nat}{listed:Array Bool}{a:Act}(h:wpX P md ops Q late S fuel (((listed.setIfInBounds i true).setIfInBounds (i+1) true).setIfInBounds (i+2) true) (((a.put d1 v1).put d2 v2).put d3 v3) w)(hS:Hid (S w):=by with_reducible assumption)
  (hi1:ops[i]? =some o1:=by rfl)(hd1:o1.dst=d1:=by(conv=>lhs;whnf)<;>rfl)(hb1:(Region.noSelect ops&& (Region.free md ops listed i&& ((Region.ready md ops listed).contains i&& (waits2 md ops late i&&closedB md ops listed))))=true:=by kernel_rfl)
  (hq1:∀c a w,Q (.panic c) (a.put d1 v1) w->Q (.panic c) a w:=by exact fun _ _ _ h=>h)(hg1:Region.wanted o1 (yielded ops a.tmps)=true:=by rfl)
  (hv1:∀w',S w'->(execOp a.eval o1).run P w'= .ok (.value v1) w':=by intro W1 hS1;clear hS1;go_simp;first|with_reducible rfl|rw[if_neg (by omega)])
  (hi2:ops[(i+1)]? =some o2:=by rfl)(hd2:o2.dst=d2:=by(conv=>lhs;whnf)<;>rfl)(hb2:(Region.noSelect ops&& (Region.free md ops (listed.setIfInBounds i true) (i+1)&& ((Region.ready md ops (listed.setIfInBounds i true)).contains (i+1)&& (waits2 md ops late (i+1)&&closedB md ops (listed.setIfInBounds i true)))))=true:=by kernel_rfl)
  (hq2:∀c a w,Q (.panic c) (a.put d2 v2) w->Q (.panic c) a w:=by exact fun _ _ _ h=>h)(hg2:Region.wanted o2 (yielded ops (a.put d1 v1).tmps)=true:=by rfl)
  (hv2:∀w',S w'->(execOp (a.put d1 v1).eval o2).run P w'= .ok (.value v2) w':=by intro W1 hS1;clear hS1;go_simp;first|with_reducible rfl|rw[if_neg (by omega)])
  (hi3:ops[(i+2)]? =some o3:=by rfl)(hd3:o3.dst=d3:=by(conv=>lhs;whnf)<;>rfl)(hb3:(Region.noSelect ops&& (Region.free md ops ((listed.setIfInBounds i true).setIfInBounds (i+1) true) (i+2)&& ((Region.ready md ops ((listed.setIfInBounds i true).setIfInBounds (i+1) true)).contains (i+2)&& (waits2 md ops late (i+2)&&closedB md ops ((listed.setIfInBounds i true).setIfInBounds (i+1) true)))))=true:=by kernel_rfl)
  (hq3:∀c a w,Q (.panic c) (a.put d3 v3) w->Q (.panic c) a w:=by exact fun _ _ _ h=>h)(hg3:Region.wanted o3 (yielded ops ((a.put d1 v1).put d2 v2).tmps)=true:=by rfl)
  (hv3:∀w',S w'->(execOp ((a.put d1 v1).put d2 v2).eval o3).run P w'= .ok (.value v3) w':=by intro W1 hS1;clear hS1;go_simp;first|with_reducible rfl|rw[if_neg (by omega)])
  :wpX P md ops Q late S (fuel+1+1+1) listed a w:=wpX_takeD i d1 hi1 hd1 hb1 hq1 hS.o (Or.inl ⟨hg1,hv1⟩) (wpX_takeD (i+1) d2 hi2 hd2 hb2 hq2 hS.o (Or.inl ⟨hg2,hv2⟩) (wpX_takeD (i+2) d3 hi3 hd3 hb3 hq3 hS.o (Or.inl ⟨hg3,hv3⟩) h))
theorem an(i:Nat){o1 o2 o3 o4:Oper}{d1 d2 d3 d4:Option Tmp}{fuel:Nat}{listed:Array Bool}{a:Act}(h:wpX P md ops Q late S fuel ((((listed.setIfInBounds i true).setIfInBounds (i+1) true).setIfInBounds (i+2) true).setIfInBounds (i+3) true) ((((a.put d1 v1).put d2 v2).put d3 v3).put d4 v4) w)(hS:Hid (S w):=by with_reducible assumption)
  (hi1:ops[i]? =some o1:=by rfl)(hd1:o1.dst=d1:=by(conv=>lhs;whnf)<;>rfl)(hb1:(Region.noSelect ops&& (Region.free md ops listed i&& ((Region.ready md ops listed).contains i&& (waits2 md ops late i&&closedB md ops listed))))=true:=by kernel_rfl)
  (hq1:∀c a w,Q (.panic c) (a.put d1 v1) w->Q (.panic c) a w:=by exact fun _ _ _ h=>h)(hg1:Region.wanted o1 (yielded ops a.tmps)=true:=by rfl)
  (hv1:∀w',S w'->(execOp a.eval o1).run P w'= .ok (.value v1) w':=by intro W1 hS1;clear hS1;go_simp;first|with_reducible rfl|rw[if_neg (by omega)])
  (hi2:ops[(i+1)]? =some o2:=by rfl)(hd2:o2.dst=d2:=by(conv=>lhs;whnf)<;>rfl)(hb2:(Region.noSelect ops&& (Region.free md ops (listed.setIfInBounds i true) (i+1)&& ((Region.ready md ops (listed.setIfInBounds i true)).contains (i+1)&& (waits2 md ops late (i+1)&&closedB md ops (listed.setIfInBounds i true)))))=true:=by kernel_rfl)
  (hq2:∀c a w,Q (.panic c) (a.put d2 v2) w->Q (.panic c) a w:=by exact fun _ _ _ h=>h)(hg2:Region.wanted o2 (yielded ops (a.put d1 v1).tmps)=true:=by rfl)
  (hv2:∀w',S w'->(execOp (a.put d1 v1).eval o2).run P w'= .ok (.value v2) w':=by intro W1 hS1;clear hS1;go_simp;first|with_reducible rfl|rw[if_neg (by omega)])
  (hi3:ops[(i+2)]? =some o3:=by rfl)(hd3:o3.dst=d3:=by(conv=>lhs;whnf)<;>rfl)(hb3:(Region.noSelect ops&& (Region.free md ops ((listed.setIfInBounds i true).setIfInBounds (i+1) true) (i+2)&& ((Region.ready md ops ((listed.setIfInBounds i true).setIfInBounds (i+1) true)).contains (i+2)&& (waits2 md ops late (i+2)&&closedB md ops ((listed.setIfInBounds i true).setIfInBounds (i+1) true)))))=true:=by kernel_rfl)
  (hq3:∀c a w,Q (.panic c) (a.put d3 v3) w->Q (.panic c) a w:=by exact fun _ _ _ h=>h)(hg3:Region.wanted o3 (yielded ops ((a.put d1 v1).put d2 v2).tmps)=true:=by rfl)
  (hv3:∀w',S w'->(execOp ((a.put d1 v1).put d2 v2).eval o3).run P w'= .ok (.value v3) w':=by intro W1 hS1;clear hS1;go_simp;first|with_reducible rfl|rw[if_neg (by omega)])
  (hi4:ops[(i+3)]? =some o4:=by rfl)(hd4:o4.dst=d4:=by(conv=>lhs;whnf)<;>rfl)(hb4:(Region.noSelect ops&& (Region.free md ops (((listed.setIfInBounds i true).setIfInBounds (i+1) true).setIfInBounds (i+2) true) (i+3)&& ((Region.ready md ops (((listed.setIfInBounds i true).setIfInBounds (i+1) true).setIfInBounds (i+2) true)).contains (i+3)&& (waits2 md ops late (i+3)&&closedB md ops (((listed.setIfInBounds i true).setIfInBounds (i+1) true).setIfInBounds (i+2) true)))))=true:=by kernel_rfl)
  (hq4:∀c a w,Q (.panic c) (a.put d4 v4) w->Q (.panic c) a w:=by exact fun _ _ _ h=>h)(hg4:Region.wanted o4 (yielded ops (((a.put d1 v1).put d2 v2).put d3 v3).tmps)=true:=by rfl)
  (hv4:∀w',S w'->(execOp (((a.put d1 v1).put d2 v2).put d3 v3).eval o4).run P w'= .ok (.value v4) w':=by intro W1 hS1;clear hS1;go_simp;first|with_reducible rfl|rw[if_neg (by omega)])
  :wpX P md ops Q late S (fuel+1+1+1+1) listed a w:=wpX_takeD i d1 hi1 hd1 hb1 hq1 hS.o (Or.inl ⟨hg1,hv1⟩) (wpX_takeD (i+1) d2 hi2 hd2 hb2 hq2 hS.o (Or.inl ⟨hg2,hv2⟩) (wpX_takeD (i+2) d3 hi3 hd3 hb3 hq3 hS.o (Or.inl ⟨hg3,hv3⟩) (wpX_takeD (i+3) d4 hi4 hd4 hb4 hq4 hS.o (Or.inl ⟨hg4,hv4⟩) h)))
theorem af(F:World->Prop)(i:Nat){o1:Oper}{d1:Option Tmp}{fuel:Nat}{listed:Array Bool}{a:Act}(hF:∀w,S w->F w)(h:wpX P md ops Q late S fuel (listed.setIfInBounds i true) (a.put d1 v1) w)(hS:Hid (S w):=by with_reducible assumption)
  (hi1:ops[i]? =some o1:=by rfl)(hd1:o1.dst=d1:=by(conv=>lhs;whnf)<;>rfl)(hb1:(Region.noSelect ops&& (Region.free md ops listed i&& ((Region.ready md ops listed).contains i&& (waits2 md ops late i&&closedB md ops listed))))=true:=by kernel_rfl)
  (hq1:∀c a w,Q (.panic c) (a.put d1 v1) w->Q (.panic c) a w:=by exact fun _ _ _ h=>h)(hg1:Region.wanted o1 (yielded ops a.tmps)=true:=by rfl)
  (hv1:∀w',F w'->(execOp a.eval o1).run P w'= .ok (.value v1) w':=by intro W1 hS1;go_simp;first|with_reducible rfl|rw[if_neg (by omega)]):wpX P md ops Q late S (fuel+1) listed a w:=wpX_takeD i d1 hi1 hd1 hb1 hq1 hS.o (Or.inl ⟨hg1,fun w' h'=>hv1 w' (hF w' h')⟩) h
end
def WdOk(T:List Wd):Prop:=∀i,(kindAt T i=1->isName (T.getD i default).text=true)/\(0<=(T.getD i default).num/\(T.getD i default).num<=2147483647)
theorem wKind_1{p:Nat}(w:p<s.size)(h:wKind s p=1)(g:wErr s p=0):isName (s.extract p (wEnd s p))=true:=by
 have N:=wEnd_gt w g;have H:=wEnd_le w;have D:=extract_while isAny s p;unfold wKind at h;unfold wErr at g;have j:isLet (byte s p)=true:=by
  cases j:isLet (byte s p) with
  |true=>rfl
  |false=>rw[j]at h;simp only[Bool.false_eq_true,if_false]at h;split at h<;>cases h
 have G:wEnd s p=endOf isAny s p:=by unfold wEnd;rw[if_pos j]
 rw[if_pos j]at h g;rw[G]at N H ⊢;have C:isKw (s.extract p (endOf isAny s p)).data.toList=false:=by
  cases J:isKw (s.extract p (endOf isAny s p)).data.toList with
  |false=>rfl
  |true=>rw[J]at h;cases h
 rw[C]at g;simp only[Bool.false_eq_true,if_false]at g;have M:(s.extract p (endOf isAny s p)).size=endOf isAny s p-p:=by rw[ByteArray.size_extract];omega
 have E:endOf isAny s p-p<=16:=by
  rcases Nat.lt_or_ge 16 (endOf isAny s p-p) with A|A
  .rw[if_pos A]at g;cases g
  .exact A
 have F:(s.extract p (endOf isAny s p)).data.toList.all isAny=true:=by rw[D];exact List.all_takeWhile
 have K:byte (s.extract p (endOf isAny s p)) 0=byte s p:=by unfold byte;rw[D];have e:=drop_byte w;rw[e,List.takeWhile_cons_of_pos (by unfold isAny;rw[j];rfl)];rfl
 unfold isName;rw[M,K,j,F,C,decide_eq_true (by omega),decide_eq_true E];rfl
theorem lexR_ok(s:ByteArray):WdOk (lexR s).1:=by
 intro i;refine⟨fun h=>?_,num_bd s i⟩;have g:=kind_lt _ (by rw[h];decide);obtain⟨p,w,A,j⟩:=lexR_all (List.getElem_mem g);have e:(lexR s).1.getD i default=tokW s p:=by rw[List.getD_eq_getElem?_getD,List.getElem?_eq_getElem g];exact j
 rw[kindAt,if_pos g,e]at h;rw[e];exact wKind_1 w h A
def Eok(e:Ex):Prop:=∀d,e.depth<=d->exR isName e d=true
theorem eok0{k n:Int}{o:Int}(h:∀d,1<=d->exR isName (.mk k n s 0 false o []) d=true):Eok (.mk k n s 0 false o []):=fun d hd=>h d (by rwa [dep1]at hd)
theorem eok_num{n:Int}(h:0<=n/\n<=2147483647):Eok (exNum n):=eok0 fun d hd=>by simp[exR,hd,h.1,h.2]
theorem eok_name(h:isName s=true):Eok (exName s):=eok0 fun d hd=>by simp[exR,hd,h]
theorem eok_cell{x:Ex}(h:isName s=true)(g:Eok x):Eok (exCell s x):=fun d hd=>by unfold exCell at hd ⊢;rw[dep2]at hd;simp[exR,h,g (d-1) (by omega),show 1<=d by omega]
theorem eok_neg{x:Ex}(g:Eok x):Eok (exNeg x):=fun d hd=>by unfold exNeg at hd ⊢;rw[dep2]at hd;simp[exR,g (d-1) (by omega),show 1<=d by omega]
theorem eok_not{x:Ex}(g:Eok x):Eok (exNot x):=fun d hd=>by unfold exNot at hd ⊢;rw[dep2]at hd;simp[exR,g (d-1) (by omega),show 1<=d by omega]
theorem eok_bin{x y:Ex}(h:1<=j/\j<=11)(w:Eok x)(A:Eok y):Eok (exBin j x y):=fun d hd=>by
 unfold exBin at hd ⊢;rw[dep3]at hd;have C:(1:Int)<=(j:Int):=by omega
 have g:(j:Int)<=11:=by omega
 simp[exR,w (d-1) (by omega),A (d-1) (by omega),show 1<=d by omega,C,g]
theorem opOf_lt(s:ByteArray):opOf s<=11:=by
 unfold opOf;rcases hf:(List.range 12).find? fun o=>decide (opS.getD o noB=s) with _|k
 .exact Nat.zero_le _
 .have:=List.mem_of_find?_eq_some hf;simp only[List.mem_range]at this;show k<=11;omega
section
variable {T:List Wd}
theorem opAt_le(i:Nat):opAt T i<=11:=by
 unfold opAt;split
 .exact opOf_lt _
 .exact Nat.zero_le _
theorem pName_may(w:WdOk T)(h:pName T i=some (.ok (s,j))):isName s=true:=by
 unfold pName at h;split at h
 .rename_i g;cases h;exact(w i).1 g
 .cases h
theorem pE_may(F:WdOk T):∀f,
  (∀n i x j,pE T f n i=some (.ok (x,j))->Eok x)/\(∀n m l i x j,Eok l->pL T f n m l i=some (.ok (x,j))->Eok x)/\
  (∀i x j,pU T f i=some (.ok (x,j))->Eok x)/\(∀i x j,pP T f i=some (.ok (x,j))->Eok x):=by
 intro f;induction f with
 |zero=>exact⟨fun _ _ _ _ h=>by simp[pE]at h,fun _ _ _ _ _ _ _ h=>by simp[pL]at h,fun _ _ _ h=>by simp[pU]at h,fun _ _ _ h=>by simp[pP]at h⟩
 |succ f K=>
  obtain⟨A,E,C,N⟩:=K;refine⟨fun n i x j h=>?_,fun n m l i x j G h=>?_,fun i x j h=>?_,fun i x j h=>?_⟩
  .rw[pE]at h;obtain⟨l,k,w,g⟩:=andT_inv h;exact E _ _ _ _ _ _ (C _ _ _ w) g
  .rw[pL]at h;split at h
   .cases h;exact G
   .rename_i R;obtain⟨y,k,w,g⟩:=andT_inv h;have:=opAt_le (T:=T) i;exact E _ _ _ _ _ _ (eok_bin ⟨by omega,this⟩ G (A _ _ _ _ w)) g
  .rw[pU]at h;split at h
   .obtain⟨y,k,w,g⟩:=andT_inv h;cases g;exact eok_neg (C _ _ _ w)
   split at h
   .obtain⟨y,k,w,g⟩:=andT_inv h;cases g;exact eok_not (C _ _ _ w)
   .exact N _ _ _ h
  .rw[pP]at h;split at h
   .obtain⟨y,k,w,g⟩:=andT_inv h;obtain⟨_,m,-,Q⟩:=andT_inv g;cases Q;exact A _ _ _ _ w
   split at h
   .cases h;exact eok_num (F i).2
   .obtain⟨s,k,w,g⟩:=andT_inv h;have D:=pName_may F w;split at g
    .obtain⟨y,m,J,H⟩:=andT_inv g;obtain⟨_,q,-,M⟩:=andT_inv H;cases M;exact eok_cell D (A _ _ _ _ J)
    .cases g;exact eok_name D
theorem pX_may(g:WdOk T){x:Ex}(h:pX T i=some (.ok (x,j))):Eok x:=(pE_may g _).1 _ _ _ _ h
end
def Sok(s:St):Prop:=∀d,s.deep d=none->stR isName s d=true
def Ssok(l:List St):Prop:=∀d,St.deeps l d=none->stsR isName l d=true
theorem ssok_nil:Ssok []:=fun _ _=>by unfold stsR;rfl
theorem ssok_app:∀ {l m:List St},Ssok l->Ssok m->Ssok (l++m)
 | [],_,_,h=>h
 |s::r,m,h1,h2=>by
  intro d hd
  have H:∀ (l:List St),St.deeps (l++m) d=none->St.deeps l d=none/\St.deeps m d=none:=by
   intro l
   induction l with
   |nil=>intro h;exact⟨by simp[St.deeps],h⟩
   |cons x q g=>
    intro h
    rw[List.cons_append]at h
    simp only[St.deeps]at h ⊢
    cases j:x.deep d with
    |some p=>rw[j]at h;cases h
    |none=>rw[j]at h;exact g h
  have R:∀ (l:List St),stsR isName l d=true->stsR isName m d=true->stsR isName (l++m) d=true:=by
   intro l
   induction l with
   |nil=>intro _ h;exact h
   |cons x q g=>
    intro h C
    rw[List.cons_append]
    simp only[stsR,Bool.and_eq_true]at h ⊢
    exact⟨h.1,g h.2 C⟩
  obtain⟨A,w⟩:=H _ hd
  exact R _ (h1 d A) (h2 d w)
theorem ssok_one{s:St}(h:Sok s):Ssok [s]:=fun d hd=>by
 simp only[St.deeps]at hd;simp only[stsR,Bool.and_true];apply h d;cases g:s.deep d with
 |some p=>rw[g]at hd;cases hd
 |none=>rfl
theorem zEx_z:exZ zEx=true:=by decide
theorem sok_mk{k:Int}{p:Int×Int}{x y:Ex}{b e:List St}(A:1<=k/\k<=15)(G:(if nName k=true then isName s else decide (s=noB))=true)(H:(if nWith k=true then isName t else decide (t=noB))=true)
  (w:if k=3 then Eok y else y=zEx)(j:if nExpr k=true then Eok x else x=zEx)(K:(k=4∨k=5)∨b=[])(E:k=4∨e=[])(J:Ssok b)(N:Ssok e):Sok (mkSt k p s t x y b e):=by
 intro d hd;unfold mkSt at hd ⊢;simp only[St.deep]at hd;split at hd
 .cases hd
 rename_i R;have C:St.deeps b (d+1)=none:=by
  cases j:St.deeps b (d+1) with
  |some q=>rw[j]at hd;cases hd
  |none=>rfl
 rw[C]at hd;have M:=hd;unfold stR;rw[G,H,decide_eq_true A.1,decide_eq_true A.2,decide_eq_true (show d<=24 by omega),J _ C,N _ M];have Q:(if k=3 then exR isName y 24 else exZ y)=true:=by
  split at w
  .rename_i g;rw[if_pos g];exact w 24 (by omega)
  .rename_i g;rw[if_neg g,w];exact zEx_z
 have F:(if nExpr k=true then exR isName x 24 else exZ x)=true:=by
  split at j
  .rename_i g;rw[if_pos g];exact j 24 (by omega)
  .rename_i g;rw[if_neg g,j];exact zEx_z
 have g:((decide (k=4)||decide (k=5))||decide (b.length=0))=true:=by rcases K with (h|h)|h<;>simp[h]
 have D:(decide (k=4)||decide (e.length=0))=true:=by rcases E with h|h<;>simp[h]
 rw[Q,F,g,D];rfl
theorem stOf_k(t:ByteArray):stOf t<16/\stOf t≠2/\stOf t≠3:=by
 unfold stOf;rcases hf:(List.range 16).find? fun k=>decide (stW.getD k noB≠noB)&&decide (stW.getD k noB=t) with _|k
 .decide
 .have j:=List.mem_of_find?_eq_some hf;have g:=List.find?_some hf;simp only[List.mem_range]at j;simp only[Bool.and_eq_true,decide_eq_true_eq]at g;refine⟨j,fun h=>?_,fun h=>?_⟩
  .simp only[Option.getD_some]at h;subst h;exact g.1 (by decide)
  .simp only[Option.getD_some]at h;subst h;exact g.1 (by decide)
section
variable {T:List Wd}
theorem pPlain_may(F:WdOk T){p:Int×Int}{s:St}(Q:k<16/\k≠0/\k≠2/\k≠3/\k≠4/\k≠5)(h:pPlain T p k i=some (.ok (s,j))):Sok s:=by
 have g:=ssok_nil;unfold pPlain at h;split at h
 .obtain⟨_,_,-,w⟩:=andT_inv h;cases w;exact sok_mk (by decide) (by decide) (by decide) z z (.inr z) (.inr z) g g
 split at h
 .obtain⟨x,_,H,w⟩:=andT_inv h;obtain⟨_,_,-,C⟩:=andT_inv w;cases C;exact sok_mk (by decide) (by decide) (by decide) z (pX_may F H) (.inr z) (.inr z) g g
 obtain⟨s,N,H,w⟩:=andT_inv h;have D:=pName_may F H;split at w
 .obtain⟨_,m,C,E⟩:=andT_inv w;obtain⟨x,_,M,K⟩:=andT_inv E;obtain⟨_,_,-,A⟩:=andT_inv K;cases A;exact sok_mk (by decide) D (by decide) z (pX_may F M) (.inr z) (.inr z) g g
 split at w
 .rename_i G;obtain⟨t,m,C,E⟩:=andT_inv w;have J:=pName_may F C;obtain⟨_,_,-,A⟩:=andT_inv E;cases A;rcases G with rfl|rfl
  .exact sok_mk (by decide) D J z z (.inr z) (.inr z) g g
  .exact sok_mk (by decide) D J z z (.inr z) (.inr z) g g
 split at w
 .obtain⟨x,m,C,E⟩:=andT_inv w;obtain⟨_,_,-,A⟩:=andT_inv E;cases A;exact sok_mk (by decide) D (by decide) z (pX_may F C) (.inr z) (.inr z) g g
 .obtain⟨_,_,-,A⟩:=andT_inv w;cases A;have G:k=6∨k=7∨k=9∨k=10∨k=13:=by omega
  rcases G with rfl|rfl|rfl|rfl|rfl<;>exact sok_mk (by decide) D (by decide) z z (.inr z) (.inr z) g g
theorem pAssign_may(w:WdOk T){p:Int×Int}{s:St}(h:pAssign T p i=some (.ok (s,j))):Sok s:=by
 have g:=ssok_nil;unfold pAssign at h;obtain⟨s,N,J,D⟩:=andT_inv h;have G:=pName_may w J;split at D
 .obtain⟨y,m,H,M⟩:=andT_inv D;obtain⟨_,n,-,K⟩:=andT_inv M;obtain⟨_,q,-,F⟩:=andT_inv K;obtain⟨x,r,C,E⟩:=andT_inv F;obtain⟨_,_,-,A⟩:=andT_inv E;cases A;exact sok_mk (by decide) G (by decide) (pX_may w H) (pX_may w C) (.inr z) (.inr z) g g
 .obtain⟨_,q,-,F⟩:=andT_inv D;obtain⟨x,r,C,E⟩:=andT_inv F;obtain⟨_,_,-,A⟩:=andT_inv E;cases A;exact sok_mk (by decide) G (by decide) z (pX_may w C) (.inr z) (.inr z) g g
theorem pS_may(C:WdOk T):∀f,
  (∀i l j,pB T f i=some (.ok (l,j))->Ssok l)/\(∀acc i l j,Ssok acc->pSs T f acc i=some (.ok (l,j))->Ssok l)/\(∀i s j,pS T f i=some (.ok (s,j))->Sok s):=by
 intro f;induction f with
 |zero=>exact⟨fun _ _ _ h=>by simp[pB]at h,fun _ _ _ _ _ h=>by simp[pSs]at h,fun _ _ _ h=>by simp[pS]at h⟩
 |succ f K=>
  obtain⟨E,G,J⟩:=K;refine⟨fun i l j h=>?_,fun acc i l j H h=>?_,fun i s j h=>?_⟩
  .rw[pB]at h;obtain⟨_,k,-,w⟩:=andT_inv h;exact G _ _ _ _ ssok_nil w
  .rw[pSs]at h;split at h
   .cases h;exact H
   .obtain⟨s,k,A,w⟩:=andT_inv h;exact G _ _ _ _ (ssok_app H (ssok_one (J _ _ _ A))) w
  .rw[pS]at h;split at h
   .exact pAssign_may C h
   split at h
   .cases h
   rename_i S M;split at h
   .obtain⟨x,k,A,w⟩:=andT_inv h;obtain⟨b,m,D,g⟩:=andT_inv w;cases g;exact sok_mk (by decide) (by decide) (by decide) z (pX_may C A) (.inl (.inr z)) (.inr z) (E _ _ _ D) ssok_nil
   rename_i R;split at h
   .obtain⟨x,k,A,w⟩:=andT_inv h;obtain⟨b,m,D,g⟩:=andT_inv w;split at g
    .obtain⟨c,q,Q,N⟩:=andT_inv g;cases N;exact sok_mk (by decide) (by decide) (by decide) z (pX_may C A) (.inl (.inl z)) (.inl z) (E _ _ _ D) (E _ _ _ Q)
    .cases g;exact sok_mk (by decide) (by decide) (by decide) z (pX_may C A) (.inl (.inl z)) (.inl z) (E _ _ _ D) ssok_nil
   .rename_i g;have F:=stOf_k (T.getD i default).text;exact pPlain_may C ⟨F.1,fun e=>M (.inr e),F.2.1,F.2.2,g,R⟩ h
theorem pNumb_may(g:WdOk T){n:Int}(h:pNumb T i=some (.ok (n,j))):0<=n/\n<=2147483647:=by
 unfold pNumb at h;split at h
 .cases h;exact(g i).2
 .cases h
theorem deAt_k(i:Nat):deAt T i<7:=by
 unfold deAt;rcases hf:(List.range 7).find? fun k=>decide (k≠0)&&isT T i (deW.getD k noB) with _|k
 .decide
 .have g:=List.mem_of_find?_eq_some hf;simp only[List.mem_range]at g;exact g
theorem pD_may(H:WdOk T){d:De}(h:pD T i=some (.ok (d,j)))(hd:St.deeps d.body 1=none):deR isName d=true:=by
 unfold pD at h;split at h
 .cases h
 rename_i S;have R:=deAt_k (T:=T) i;obtain⟨s,Q,N,w⟩:=andT_inv h;have E:=pName_may H N;split at w
 .obtain⟨_,m,-,G⟩:=andT_inv w;split at G
  .obtain⟨n,_,C,F⟩:=andT_inv G;obtain⟨_,_,-,A⟩:=andT_inv F;have D:=pNumb_may H C;cases A;have J:(-2147483647:Int)<=-n:=by omega
   have M:(-n:Int)<=2147483647:=by omega
   simp[deR,mkDe,E,J,M]
  .obtain⟨n,_,C,F⟩:=andT_inv G;obtain⟨_,_,-,A⟩:=andT_inv F;have D:=pNumb_may H C;cases A;have J:(-2147483647:Int)<=n:=by omega
   simp[deR,mkDe,E,J,D.2]
 split at w
 .rename_i g;obtain⟨n,_,C,F⟩:=andT_inv w;obtain⟨_,_,-,A⟩:=andT_inv F;have D:=pNumb_may H C;cases A;rcases g with g|g<;>simp[deR,mkDe,E,D.1,D.2,g]
 split at w
 .obtain⟨b,q,G,C⟩:=andT_inv w;cases C;have K:=(pS_may H _).1 _ _ _ G 1 hd;simp[deR,mkDe,E,K]
 .obtain⟨_,_,-,A⟩:=andT_inv w;cases A;have g:deAt T i=3∨deAt T i=4:=by omega
  rcases g with g|g<;>simp[deR,mkDe,E,g]
theorem pDs_may(E:WdOk T):∀f acc i l j,(∀d∈acc,St.deeps d.body 1=none->deR isName d=true)->pDs T f acc i=some (.ok (l,j))->∀d∈l,St.deeps d.body 1=none->deR isName d=true:=by
 intro f;induction f with
 |zero=>intro acc i l j _ h;simp[pDs]at h
 |succ f C=>
  intro acc i l j w h;rw[pDs]at h;split at h
  .obtain⟨d,k,D,A⟩:=andT_inv h;refine C _ _ _ _ ?_ A;intro e g hd;rcases List.mem_append.1 g with g|g
   .exact w e g hd
   .obtain rfl:e=d:=by simpa using g
    exact pD_may E D hd
  .cases h;exact w
end
theorem deep_none:∀ {l:List De},deDeep l=none->∀d∈l,St.deeps d.body 1=none
 | [],_,d,h=>by cases h
 |e::r,h,d,hd=>by
  rw[deDeep]at h
  cases g:St.deeps e.body 1 with
  |some p=>rw[g]at h;cases h
  |none=>
   rw[g]at h
   rcases List.mem_cons.1 hd with rfl|hd
   .exact g
   .exact deep_none h d hd
theorem read_may(s:ByteArray):desR isName (parseR s).1=true:=by
 have A:=lexR_ok s;unfold parseR;split
 .split
  .rename_i l j w;split
   .rfl
   .rename_i hd;unfold desR;rw[List.all_eq_true];exact fun d g=>pDs_may A _ _ _ _ _ (fun d hd=>by cases hd) w d g (deep_none hd d g)
  .rfl
  .rfl
 .rfl
theorem name_le(h:isName s=true):s.size<=9223372036854775807:=by unfold isName at h;simp only[Bool.and_eq_true,decide_eq_true_eq]at h;omega
theorem name_or{c:Bool}(h:(if c=true then isName s else decide (s=noB))=true):s.size<=9223372036854775807:=by
 split at h
 .exact name_le h
 .simp only[decide_eq_true_eq]at h;subst h;decide
mutual
theorem exR_nb:∀ {e:Ex} {d:Nat},exR isName e d=true->e.nb
 | .mk k n s sl lo o args,d,h=>by
  rw[exR_eq]at h
  simp only[Bool.and_eq_true]at h
  unfold Ex.nb
  refine⟨?_,exsR_nb h.2.2.2.2.2.2⟩
  have h4:=h.2.2.2.1
  split at h4
  .exact name_le h4
  .simp only[decide_eq_true_eq]at h4
   subst h4
   decide
theorem exsR_nb:∀ {l:List Ex} {d:Nat},exsR isName l d=true->Ex.nbs l
 | [],_,_=>by unfold Ex.nbs;trivial
 |x::r,d,h=>by
  unfold exsR at h
  rw[List.all_cons,Bool.and_eq_true]at h
  unfold Ex.nbs
  exact⟨exR_nb h.1,exsR_nb (d:=d) h.2⟩
end
theorem exZ_nb:∀ {e:Ex},exZ e=true->e.nb
 | .mk k n s sl lo o args,h=>by
  simp only[exZ,Bool.and_eq_true,decide_eq_true_eq]at h
  obtain⟨-,-,rfl,-,g⟩:=h
  obtain rfl:=List.length_eq_zero_iff.1 g
  unfold Ex.nb Ex.nbs
  exact⟨by decide,trivial⟩
theorem exRZ_nb{c:Prop}[Decidable c](h:(if c then exR isName e 24 else exZ e)=true):e.nb:=by
 split at h
 .exact exR_nb h
 .exact exZ_nb h
mutual
theorem stR_nb:∀ {s:St} {d:Nat},stR isName s d=true->s.nb
 | .mk k l c s t x y b e _ _ _ _,d,h=>by
  unfold stR at h
  simp only[Bool.and_eq_true]at h
  unfold St.nb
  exact⟨name_or h.2.2.1,name_or h.2.2.2.1,exRZ_nb h.2.2.2.2.2.1,exRZ_nb h.2.2.2.2.1,stsR_nb h.2.2.2.2.2.2.2.2.1,stsR_nb h.2.2.2.2.2.2.2.2.2⟩
theorem stsR_nb:∀ {l:List St} {d:Nat},stsR isName l d=true->St.nbs l
 | [],_,_=>by unfold St.nbs;trivial
 |s::r,d,h=>by
  unfold stsR at h
  rw[Bool.and_eq_true]at h
  unfold St.nbs
  exact⟨stR_nb h.1,stsR_nb h.2⟩
end
theorem deR_nb{d:De}(h:deR isName d=true):d.nb:=by
 unfold deR at h;simp only[Bool.and_eq_true,Bool.or_eq_true,decide_eq_true_eq]at h;refine⟨name_le h.1,?_⟩;rcases h.2.1 with j|w
 .have g:=h.2.2;rw[j]at g;simp only[show ¬ (6:Int)=1 by decide,show ¬ ((6:Int)=2∨(6:Int)=5) by decide,show ¬ ((6:Int)=3∨(6:Int)=4) by decide,if_false,if_true,Bool.and_eq_true]at g;exact stsR_nb g.2
 .rw[List.length_eq_zero_iff.1 w];unfold St.nbs;trivial
theorem desR_nb{l:List De}(h:desR isName l=true):∀d∈l,d.nb:=fun d hd=>deR_nb (List.all_eq_true.1 h d hd)
def exC(k n:Int)(s:ByteArray)(sl:Int)(lo:Bool)(o:Int)(av:Value):List Value:=[.int .i64 k,.int .i64 n,.string s,.int .i64 sl,.bool lo,.int .i64 o,av]
theorem exC_one{k n:Int}{sl:Int}{lo:Bool}{o:Int}{cap:Nat}:(exC k n s sl lo o (.slice a m cap)).length=7/\∀v∈exC k n s sl lo o (.slice a m cap),v.oneCell'=true:=⟨z,fun v g=>by simp only[exC,List.mem_cons,List.not_mem_nil,or_false]at g;rcases g with rfl|rfl|rfl|rfl|rfl|rfl|rfl<;>rfl⟩
mutual
def Ex.sm:Ex->Prop
 | .mk _ _ _ _ _ _ args=>args.length<=10000000/\Ex.sms args
def Ex.sms:List Ex->Prop
 | []=>True
 |x::r=>x.sm/\Ex.sms r
end
mutual
theorem exR_sm2 {nm:ByteArray->Bool}:∀ (e:Ex) {d:Nat},exR nm e d=true->e.sm
 | .mk k n s sl lo o args,d,h=>by
  rw[exR_eq]at h
  simp only[Bool.and_eq_true,decide_eq_true_eq]at h
  obtain⟨-,-,-,-,-,h1,h2⟩:=h
  unfold Ex.sm
  refine⟨?_,exsR_sm2 args h2⟩
  rw[h1]
  unfold arity
  split
  .decide
  .split<;>decide
theorem exsR_sm2 {nm:ByteArray->Bool}:∀ (l:List Ex) {d:Nat},exsR nm l d=true->Ex.sms l
 | [],_,_=>by unfold Ex.sms;trivial
 |x::r,d,h=>by
  unfold exsR at h
  rw[List.all_cons,Bool.and_eq_true]at h
  unfold Ex.sms
  exact⟨exR_sm2 x h.1,exsR_sm2 r h.2⟩
end
theorem exZ_sm(h:exZ e=true):e.sm:=by obtain⟨k,n,s,sl,lo,o,args⟩:=e;unfold exZ at h;simp only[Bool.and_eq_true,decide_eq_true_eq]at h;have:=List.length_eq_zero_iff.1 h.2.2.2.2;subst this;unfold Ex.sm Ex.sms;exact⟨by decide,trivial⟩
theorem under60:∃d,Tryz.prog.underlying 60=some d/\d.isRow=true:=by
 have h:(Tryz.prog.underlying 60).map (·.isRow)=some true:=by kernel_rfl
 obtain⟨d,j,g⟩:=Option.map_eq_some_iff.1 h;exact⟨d,j,g⟩
def zStC:List Value:=[.int .i64 0,.int .i64 0,.int .i64 0,.string ⟨#[]⟩,.string ⟨#[]⟩,.int .i64 0,.int .i64 0,.string ⟨#[]⟩,.int .i64 0,.bool false,.int .i64 0,.slice none 0 0,.int .i64 0,.int .i64 0,.string ⟨#[]⟩,.int .i64 0,.bool false,.int .i64 0,.slice none 0 0,.slice none 0 0,.slice none 0 0,.int .i64 0,.int .i64 0,.int .i64 0,.bool false]
theorem zero60:∃i z,Tryz.prog.info? 60=some i/\i.zero=some z/\z.cells=zStC.toArray:=infoZ (by kernel_rfl)
def stC(k l c:Int)(s t:ByteArray)(xc yc:List Value)(bv ev:Value)(id sl ot:Int)(lo:Bool):List Value:= .int .i64 k:: .int .i64 l:: .int .i64 c:: .string s:: .string t::(xc++(yc++[bv,ev,.int .i64 id,.int .i64 sl,.int .i64 ot,.bool lo]))
theorem len7(h:l.length=7):∃a b c d e f g,l=[a,b,c,d,e,f,g]:=by rcases l with _|⟨a,_|⟨b,_|⟨c,_|⟨d,_|⟨e,_|⟨f,_|⟨g,_|⟨i,r⟩⟩⟩⟩⟩⟩⟩⟩;all_goals first|exact⟨_,_,_,_,_,_,_,z⟩|simp at h
theorem stC_one{k l c:Int}{cap:Nat}{id sl ot:Int}{lo:Bool}(w:l2.length=7/\∀v∈l2,v.oneCell'=true)(A:l3.length=7/\∀v∈l3,v.oneCell'=true):(stC k l c s t l2 l3 (.slice a n cap) (.slice a0 j g) id sl ot lo).length=25/\∀v∈stC k l c s t l2 l3 (.slice a n cap) (.slice a0 j g) id sl ot lo,v.oneCell'=true:=by refine⟨by simp[stC,w.1,A.1],fun v C=>?_⟩;simp only[stC,List.mem_cons,List.mem_append,List.not_mem_nil,or_false]at C;rcases C with rfl|rfl|rfl|rfl|rfl|h|h|rfl|rfl|rfl|rfl|rfl|rfl;all_goals first|rfl|exact w.2 v h|exact A.2 v h
theorem stC_at{k l c:Int}{bv ev:Value}{id sl ot:Int}{lo:Bool}{C:List Value}(j:C=stC k l c s t l2 l3 bv ev id sl ot lo)(g:l2.length=7)(w:l3.length=7):C[0]? =some (I k)/\C[1]? =some (I l)/\C[2]? =some (I c)/\C[3]? =some (.string s)/\C[4]? =some (.string t)/\C[19]? =some bv/\C[20]? =some ev/\C[21]? =some (I id)/\C[22]? =some (I sl)/\C[23]? =some (I ot)/\C[24]? =some (.bool lo):=by obtain⟨G,F,K,J,H,E,A,rfl⟩:=len7 g;obtain⟨b0,b1,b2,b3,M,D,N,rfl⟩:=len7 w;subst j;exact⟨z,z,z,z,z,z,z,z,z,z,z⟩
section
variable {k l c:Int} {s t:ByteArray} {xc yc:List Value} {bv ev:Value} {id sl ot:Int} {lo:Bool}
theorem stC_set(g:xc.length=7)(j:yc.length=7)(v:Value)(i:Int)(b:Bool):(stC k l c s t xc yc bv ev id sl ot lo).set 19 v=stC k l c s t xc yc v ev id sl ot lo/\(stC k l c s t xc yc bv ev id sl ot lo).set 20 v=stC k l c s t xc yc bv v id sl ot lo/\(stC k l c s t xc yc bv ev id sl ot lo).set 21 (I i)=stC k l c s t xc yc bv ev i sl ot lo/\(stC k l c s t xc yc bv ev id sl ot lo).set 22 (I i)=stC k l c s t xc yc bv ev id i ot lo/\(stC k l c s t xc yc bv ev id sl ot lo).set 23 (I i)=stC k l c s t xc yc bv ev id sl i lo/\(stC k l c s t xc yc bv ev id sl ot lo).set 24 (.bool b)=stC k l c s t xc yc bv ev id sl ot b:=by obtain⟨E,C,H,G,F,D,w,rfl⟩:=len7 g;obtain⟨b0,b1,b2,b3,J,A,K,rfl⟩:=len7 j;exact⟨z,z,z,z,z,z⟩
end
section
variable {w W W':World} {cs cs' sc sc':List Value}
theorem StsL.lat{ok:Nat->Prop}{l:List St}(g:StsL ok W a 0 l)(A:bL W W'):StsL ok W' a 0 l:=g.keep fun b o v _ j=>below_cell A b o v j
end
theorem wpList_store_part{E:Array Oper}{D:List Oper}{o:Oper}{a:Act}{C:Exit->Act->World->Prop}{T F:TypeId}(M:(Tryz.prog.info? T).map (·.size)=some n)(G:o.guard=none)(x y:Operand)(J:o.op= .store T x y)
  (b k:Nat)(vs:List Value){pre mid post:List Value}(N:a.eval x= .pointer (some ⟨b,k,none⟩))(K:a.eval y= .agg vs.toArray)(A:Blk w b F (pre++(mid++post)))(H:pre.length=k)(j:mid.length=n)(g:vs.length=n/\∀v∈vs,v.oneCell'=true)(h:∀W,Blk W b F (pre++(vs++post))->Ch b w W->wpList Tryz.prog E C D (a.put o.dst undef) W):wpList Tryz.prog E C (o::D) a w:=by
 subst H;exact wpList_store_mid G T x y J b pre.length vs.toArray N K (A.there (by simp[j,g.1])) (by rw[M];simp[g.1]) (all_oneCell_toArray g.2) (by simpa using h _ (A.put (by rw[g.1,j])) ⟨pre.length,vs,z⟩)
section
variable {k l c:Int} {s t:ByteArray} {xc yc:List Value} {bv ev:Value} {id sl ot:Int} {lo:Bool}
theorem stC_x:stC k l c s t xc yc bv ev id sl ot lo=[I k,I l,I c,.string s,.string t]++(xc++(yc++[bv,ev,I id,I sl,I ot,.bool lo])):=rfl
theorem stC_y:stC k l c s t xc yc bv ev id sl ot lo=(I k::I l::I c:: .string s:: .string t::xc)++(yc++[bv,ev,I id,I sl,I ot,.bool lo]):=by simp[stC]
end
mutual
def St.sm:St->Prop
 | .mk _ _ _ _ _ x y body els _ _ _ _=>x.sm/\y.sm/\St.sms body/\St.sms els
def St.sms:List St->Prop
 | []=>True
 |s::r=>s.sm/\St.sms r
end
mutual
theorem stR_sm2 {nm:ByteArray->Bool}:∀ (s:St) {d:Nat},stR nm s d=true->s.sm
 | .mk k l c s t x y body els id sl ot lo,d,h=>by
  unfold stR at h
  simp only[Bool.and_eq_true]at h
  obtain⟨-,-,-,-,h1,h2,-,-,h3,h4⟩:=h
  unfold St.sm
  refine⟨?_,?_,stsR_sm2 body h3,stsR_sm2 els h4⟩
  .split at h2
   .exact exR_sm2 x h2
   .exact exZ_sm h2
  .split at h1
   .exact exR_sm2 y h1
   .exact exZ_sm h1
theorem stsR_sm2 {nm:ByteArray->Bool}:∀ (r:List St) {d:Nat},stsR nm r d=true->St.sms r
 | [],_,_=>by unfold St.sms;trivial
 |s::r,d,h=>by
  unfold stsR at h
  rw[Bool.and_eq_true]at h
  unfold St.sms
  exact⟨stR_sm2 s h.1,stsR_sm2 r h.2⟩
end
theorem andI{g w:Type}{x:PR g}{k:g->Nat->PR w}{b:w}(h:andT x k=some (.ok (b,j))):∃a m,k a m=some (.ok (b,j))/\x=some (.ok (a,m)):=by
 rcases x with _| (i|⟨a,m⟩)
 .cases h
 .cases h
 .exact⟨a,m,h,z⟩
end Go.Proofs.YtgppcdfgdaggjaaGreatDoor
