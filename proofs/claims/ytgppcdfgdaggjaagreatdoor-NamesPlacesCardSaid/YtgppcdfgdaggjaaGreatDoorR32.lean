/- Texts laid together. No condition but what each law says. -/
import Derived.Test.YtgppcdfgdaggjaaGreatDoorR29
set_option maxRecDepth 100000
set_option maxHeartbeats 8000000
namespace Go.Proofs.YtgppcdfgdaggjaaGreatDoor
open Go.RowKit Go.Maps
variable {b c g i j k n n0:Nat}{u v v0 v1 v2 v3 v4:Value}{V W w w0:World}{A:Act}{l2:List Value}{F0:PF}
def ElT{α:Type}(E:El α)(t:TypeId):Prop:=∃i z,Tryz.prog.underlying t=some (.slice E.ty)/\Tryz.prog.info? E.ty=some i/\i.zero=some z/\i.size=E.sz/\z.cells.size=E.sz/\0<E.sz/\E.sz<=1000/\i.bytes<=1024
def Flat{α:Type}(E:El α):Prop:=∀ (ok ok':Nat->Prop) (w w':World) (cs:List Value) (x:α),E.L ok w cs x->E.L ok' w' cs x
section
variable {P:Program} {ops:Array Oper} {Q:Exit→Act→World→Prop} {md:Region.Mode} {late:List Nat} {S:World→Prop}
theorem wpX_firstP{D:Oper}(U:ops[i]? =some D)(V:∀ (j:Nat) (o:Oper) cs b,ops[j]? =some o->o.op≠ .select cs b)
  (hQ:∀c a w,Q (.panic c) (a.put D.dst v) w->Q (.panic c) a w)(a5:late.contains i=true)(F:Nat):∀ (C:Array Bool) (a:Act) (w:World),
   (∀j A,ops[j]? =some A->j≠i->C.getD j true=false->(∀e∈A.after,Region.binds md e=true->e.on≠i)->D.apart ops A=true)->
   i∈Region.ready md ops C->YieldsIf P ops (fun _=>True) D v a->
   wpX P md ops Q late S F (C.setIfInBounds i true) (a.put D.dst v) w->wpX P md ops Q late S (F+1) C a w:=by
 have J:¬late.contains i=false:=by rw[a5];decide
 induction F with
 |zero=>
  intro C a w _ E G H;refine⟨fun h=>absurd E (by rw[h];simp),fun j K=>?_⟩;have g:j=i:=Classical.byContradiction fun a3=>by have Z:=ready_mono K a3;rw[H.1]at Z;simp at Z
  subst g;exact G.wpOp U trivial ⟨fun h=>absurd h J,H⟩
 |succ F ih=>
  intro C a w X E G H;refine⟨fun h=>absurd E (by rw[h];simp),fun j K=>?_⟩;rcases Decidable.em (j=i) with g|g
  .subst g;exact G.wpOp U trivial ⟨fun h=>absurd h J,H⟩
  .obtain⟨W,A,N,a2⟩:=mem_ready.1 K;have a1:∀e∈A.after,Region.binds md e=true->e.on≠i:=fun e he hb a0=>by have h1:=a2 e he hb;rw[a0]at h1;exact not_both (mem_ready.1 E).1 h1
   have h2:=wpOp_putIf N (X j A N g W a1) (fun cs b=>V i D cs b U) (fun cs b=>V j A cs b N) hQ G (H.2 j (ready_mono K g));refine wpOp_mono (fun a' w' M=>⟨M.2.1,ih (C.setIfInBounds j true) a' w' ?_ (ready_mono E (Ne.symm g)) M.1 ?_⟩) h2
   .intro k ok hk a4 Y J;refine X k ok hk a4 ?_ J;rcases Decidable.em (j=k) with R|R
    .subst R;exact W
    .rw[getD_set_ne true R]at Y;exact Y
   .rw[Array.setIfInBounds_comm _ _ g];exact M.2.2
theorem wpX_takeP(i:Nat)(d:Option Tmp){C:Oper}{A:Array Bool}{a:Act}(D:ops[i]? =some C)(hd:C.dst=d)
  (g:(Region.noSelect ops&& (Region.free md ops A i&& ((Region.ready md ops A).contains i&&late.contains i)))=true)
  (E:∀c a w,Q (.panic c) (a.put d v) w->Q (.panic c) a w)(F:YieldsIf P ops (fun _=>True) C v a)
  (h:wpX P md ops Q late S j (A.setIfInBounds i true) (a.put d v) w):wpX P md ops Q late S (j+1) A a w:=by
 subst hd;simp only[Bool.and_eq_true]at g;exact wpX_firstP D (Region.noSelect_spec g.1) E g.2.2.2 j A a w (Region.free_spec D g.2.1) (by simpa using g.2.2.1) F h
def waits3(md:Region.Mode)(ops:Array Oper)(late:List Nat)(listed:Array Bool)(i:Nat):Bool:=late.all fun j=>listed.getD j false||waitsN md ops i (ops.size+1) j
theorem wpX_first3{E:Oper}(Z:ops[i]? =some E)(a2:∀ (j:Nat) (o:Oper) cs b,ops[j]? =some o->o.op≠ .select cs b)
  (hQ:∀c a w,Q (.panic c) (a.put E.dst v) w->Q (.panic c) a w)(R:Nat):∀ (g:Array Bool) (a:Act) (w:World),waits3 md ops late g i=true->
   Closed md ops g->
   (∀j D,ops[j]? =some D->j≠i->g.getD j true=false->(∀e∈D.after,Region.binds md e=true->e.on≠i)->E.apart ops D=true)->
   i∈Region.ready md ops g->YieldsIf P ops S E v a->S w->
   wpX P md ops Q late S R (g.setIfInBounds i true) (a.put E.dst v) w->wpX P md ops Q late S (R+1) g a w:=by
 induction R with
 |zero=>
  intro g a w _ _ _ F V G H;refine⟨fun h=>absurd F (by rw[h];simp),fun j K=>?_⟩;have C:j=i:=Classical.byContradiction fun a8=>by have h0:=ready_mono K a8;rw[H.1]at h0;simp at h0
  subst C;exact V.wpOp Z G ⟨fun _=>G,H⟩
 |succ R ih=>
  intro g a w hl a5 a3 F V G H;refine⟨fun h=>absurd F (by rw[h];simp),fun j K=>?_⟩;rcases Decidable.em (j=i) with C|C
  .subst C;exact V.wpOp Z G ⟨fun _=>G,H⟩
  .obtain⟨Y,D,N,a1⟩:=mem_ready.1 K;have b4:g.getD i false=false:=by
    cases h:g.getD i false with
    |false=>rfl
    |true=>exact(not_both (mem_ready.1 F).1 h).elim
   have a0:∀e∈D.after,Region.binds md e=true->e.on≠i:=fun e W U a6=>by have J:=a1 e W U;rw[a6]at J;exact not_both (mem_ready.1 F).1 J
   have a7:late.contains j=false:=by
    cases hc:late.contains j with
    |false=>rfl
    |true=>
     have A:=List.all_eq_true.1 hl j (by simpa using hc);rw[Bool.or_eq_true]at A;rcases A with A|A
     .exact(not_both Y A).elim
     simp only[waitsN,N,Array.any_eq_true',Bool.and_eq_true,Bool.or_eq_true,beq_iff_eq]at A;obtain⟨e,W,U,h⟩:=A;rcases h with h|h
     .exact absurd h (a0 e W U)
     .have J:=a1 e W U;rw[waitsN_not a5 b4 _ _ h]at J;cases J
   have h2:=wpOp_putIf N (a3 j D N C Y a0) (fun cs b=>a2 i E cs b Z) (fun cs b=>a2 j D cs b N) hQ V (H.2 j (ready_mono K C));refine wpOp_mono (fun a' w' M=>⟨M.2.1,ih (g.setIfInBounds j true) a' w' ?_ (a5.add K) ?_ (ready_mono F (Ne.symm C)) M.1 (M.2.1 a7) ?_⟩) h2
   .refine List.all_eq_true.2 fun k hk=>?_;have A:=List.all_eq_true.1 hl k hk;rw[Bool.or_eq_true]at A ⊢;exact A.imp (fun h=>getD_set h) (fun h=>h)
   .intro k ok hk a9 a4 b5;refine a3 k ok hk a9 ?_ b5;rcases Decidable.em (j=k) with X|X
    .subst X;exact Y
    .rw[getD_set_ne true X]at a4;exact a4
   .rw[Array.setIfInBounds_comm _ _ C];exact M.2.2
theorem wpX_take3(i:Nat)(d:Option Tmp){C:Oper}{g:Array Bool}{a:Act}(D:ops[i]? =some C)(hd:C.dst=d)
  (A:(Region.noSelect ops&& (Region.free md ops g i&& ((Region.ready md ops g).contains i&& (waits3 md ops late g i&&closedB md ops g))))=true)
  (E:∀c a w,Q (.panic c) (a.put d v) w->Q (.panic c) a w)(F:S w)(G:YieldsIf P ops S C v a)
  (h:wpX P md ops Q late S j (g.setIfInBounds i true) (a.put d v) w):wpX P md ops Q late S (j+1) g a w:=by
 subst hd;simp only[Bool.and_eq_true]at A;exact wpX_first3 D (Region.noSelect_spec A.1) E j g a w A.2.2.2.1 (closed_of A.2.2.2.2) (Region.free_spec D A.2.1) (by simpa using A.2.2.1) G F h
end
section
variable {ops:Array Oper} {Q:Exit→Act→World→Prop} {late:List Nat} {S:World→Prop} {f:Nat} {listed:Array Bool}
theorem wpX_app2{α β:Type}{E1:El α}{E2:El β}{a:Act}{B:Nat}(b1 K b2 a2:Nat){b4 b7 a4 d6:Oper}(F e1 E e2:Tmp)(t1 t2:TypeId)(a5 y1 s2 y2:Tmp)
  (X:ops[b1]? =some b4/\ops[K]? =some b7/\ops[b2]? =some a4/\ops[a2]? =some d6)
  (hg:b4.guard=none/\b7.guard=none/\a4.guard=none/\d6.guard=none)(hd:b4.dst=some F/\b7.dst=some e1/\a4.dst=some E/\d6.dst=some e2)
  (r0:Region.ready .any ops listed=[b1,b2])(r1:Region.ready .any ops (listed.setIfInBounds b1 true)=[K,b2])(r2:Region.ready .any ops (listed.setIfInBounds b2 true)=[b1])
  (r3:Region.ready .any ops ((listed.setIfInBounds b1 true).setIfInBounds K true)=[b2])(r4:Region.ready .any ops ((listed.setIfInBounds b1 true).setIfInBounds b2 true)=[K])
  (r5:Region.ready .any ops (((listed.setIfInBounds b1 true).setIfInBounds K true).setIfInBounds b2 true)=[a2])(f9:(b1 !=b2&&K !=b2)=true)
  (R:b4.op= .buildSlice t1 1 #[(0,.tmp y1)]/\b7.op= .call {callee:= .builtin .append,args:= #[.tmp a5,.tmp F],argTypes:= #[t1,t1]}/\a4.op= .buildSlice t2 1 #[(0,.tmp y2)]/\d6.op= .call {callee:= .builtin .append,args:= #[.tmp s2,.tmp E],argTypes:= #[t2,t2]})
  (d5:(decide (F<a.tmps.size)&& (decide (e1<a.tmps.size)&& (decide (E<a.tmps.size)&&decide (e2<a.tmps.size))))=true)
  (h4:(y1 !=E&& (a5 !=F&& (a5 !=E&& (y2 !=F&& (y2 !=e1&& (s2 !=F&& (s2 !=e1&& (s2 !=E&& (F !=E&&e1 !=E)))))))))=true)
  (i4:ElT E1 t1)(i0:ElT E2 t2)(i8:Flat E1)(j3:Flat E2){M:List α}{l2:List β}(h5:a.eval (.tmp a5)=v0)(i3:a.eval (.tmp s2)=v1)(g3:Grow E1 B w v0 M)(g9:Grow E2 B w v1 l2)(g4:∀c,v0.ownBlock=some c->v1.ownBlock≠some c)
  (e5 b8:Value)(a0 N:List Value)(x1:α)(x2:β)(g7:a.eval (.tmp y1)=e5)(f6:a.eval (.tmp y2)=b8)(b5:e5.cells=a0.toArray/\b8.cells=N.toArray)(f7:∀ok W,E1.L ok W a0 x1)(h6:∀ok W,E2.L ok W N x2)(g6:M.length<=10000000/\l2.length<=10000000)(hB:B<=w.1.size)
  (Z:∀W,(∀c,c<w.1.size->v0.ownBlock≠some c->v1.ownBlock≠some c->W.1[c]? =w.1[c]?)->S W)
  (h:∀u1 u2 C J Y k2 W,Grow E1 B W (.slice (some ⟨C,0,none⟩) (M.length+1) J) (M++[x1])->Grow E2 B W (.slice (some ⟨Y,0,none⟩) (l2.length+1) k2) (l2++[x2])->Below B w W->(∀c,c<w.1.size->v0.ownBlock≠some c->v1.ownBlock≠some c->W.1[c]? =w.1[c]?)->(v0.ownBlock=some C∨w.1.size<=C)->(v1.ownBlock=some Y∨w.1.size<=Y)->C≠Y->
    wpX Tryz.prog .any ops Q late S f ((((listed.setIfInBounds b1 true).setIfInBounds K true).setIfInBounds b2 true).setIfInBounds a2 true) ((((a.put (some F) u1).put (some e1) (.slice (some ⟨C,0,none⟩) (M.length+1) J)).put (some E) u2).put (some e2) (.slice (some ⟨Y,0,none⟩) (l2.length+1) k2)) W):
  wpX Tryz.prog .any ops Q late S (f+4) listed a w:=by
 simp only[Bool.and_eq_true,bne_iff_ne,ne_eq]at h4 f9;simp only[Bool.and_eq_true,decide_eq_true_eq]at d5;obtain⟨i1,z1,f0,e6,d4,e9,d3,e7,h7,g8⟩:=i4;obtain⟨i2,z2,e0,d8,e4,d9,e3,e8,f4,j0⟩:=i0;obtain⟨n1,n2,n3,n4,n5,n6,n7,n8,n9,i7⟩:=h4;have h8:=(E1.cells (f7 (fun _=>True) w)).1;have f5:=(E2.cells (h6 (fun _=>True) w)).1;have i6:∀c,v0.ownBlock=some c->c<w.1.size:=fun c g=> (g3.own_lt g).2;have f2:∀c,v1.ownBlock=some c->c<w.1.size:=fun c g=> (g9.own_lt g).2;have h0:∀u1 C J gb W,Grow E1 B W (.slice (some ⟨C,0,none⟩) (M.length+1) J) (M++[x1])->Blk W gb E2.ty N->Below B w W->(∀c,c<w.1.size->v0.ownBlock≠some c->W.1[c]? =w.1[c]?)->(v0.ownBlock=some C∨w.1.size<=C)->
   wpX Tryz.prog .any ops Q late S (f+1) (((listed.setIfInBounds b1 true).setIfInBounds K true).setIfInBounds b2 true) (((a.put (some F) u1).put (some e1) (.slice (some ⟨C,0,none⟩) (M.length+1) J)).put (some E) (.slice (some ⟨gb,0,none⟩) 1 1)) W:=fun u1 C J gb W hA hb G hk f1=>by
  refine wpX_oneD a2 r5 X.2.2.2 hg.2.2.2 fun b9 H=>?_;have j2:Grow E2 B W v1 l2:=Grow.flat j3 g9 fun c g=>hk c (f2 c g) fun e=>g4 c e g;refine wp_append_at E2 (.tmp s2) (.tmp E) t2 R.2.2.2 i2 z2 e0 d8 e4 d9 e3 e8 j0 B W v1 l2 ?_ j2 N x2 (h6 _ _) gb E2.ty hb ?_ g6.2 (Nat.le_trans hB G.size) fun Y k2 V c9 d0 a3 a9=>?_
  .rw[put_ne n8,put_ne n7,put_ne n6];exact i3
  .exact put_get (by rw[put_size,put_size];exact d5.2.2.1)
  .rw[hd.2.2.2];have j1:C≠Y:=fun e=>by
    subst e;rcases a9 with A|A
    .rcases f1 with h2|h2
     .exact g4 _ h2 A
     .have:=f2 _ A;omega
    .have:=(hA.own_lt (c:=C) (by simp[Value.ownBlock])).2;omega
   have U:∀c,c<w.1.size->v0.ownBlock≠some c->v1.ownBlock≠some c->V.1[c]? =w.1[c]? :=fun c g A h2=> (a3 c (Nat.lt_of_lt_of_le g G.size) h2).trans (hk c g A);refine H _ _ (fun _=>Z _ U) ?_;refine h u1 _ C J Y k2 V (Grow.flat i8 hA fun c g=>?_) c9 (G.trans d0) U f1 ?_ j1
   .have e2:C=c:=by simpa [Value.ownBlock]using g
    subst e2;refine a3 _ (hA.own_lt g).2 fun e=>?_;rcases f1 with h2|h2
    .exact g4 _ h2 e
    .have:=f2 _ e;omega
   .rcases a9 with A|A
    .exact .inl A
    .exact .inr (by rw[A];exact G.size)
 have mid:∀d7 a6 W,Blk W d7 E1.ty a0->Blk W a6 E2.ty N->bL w W->w.1.size<=a6->wpX Tryz.prog .any ops Q late S (f+2) ((listed.setIfInBounds b1 true).setIfInBounds b2 true) ((a.put (some F) (.slice (some ⟨d7,0,none⟩) 1 1)).put (some E) (.slice (some ⟨a6,0,none⟩) 1 1)) W:=fun d7 a6 W a8 a7 G j5=>by
  refine wpX_oneD K r4 X.2.1 hg.2.1 fun b9 H=>?_;refine wp_append_at E1 (.tmp a5) (.tmp F) t1 R.2.1 i1 z1 f0 e6 d4 e9 d3 e7 g8 B W v0 M ?_ (g3.below G) a0 x1 (f7 _ _) d7 E1.ty a8 ?_ g6.1 (Nat.le_trans hB G.size) fun C J V c9 d0 a3 a9=>?_
  .rw[put_ne n3,put_ne n2];exact h5
  .rw[put_ne n9];exact put_get d5.1
  .rw[hd.2.1];have U:∀c,c<w.1.size->v0.ownBlock≠some c->V.1[c]? =w.1[c]? :=fun c g A=> (a3 c (Nat.lt_of_lt_of_le g G.size) A).trans (G.block c g);apply H _ _ (fun _=>Z _ fun c g A _=>U c g A);rw[put_comm (fun e=>i7 e.symm),Array.setIfInBounds_comm _ _ (fun e=>f9.2 e.symm)];apply h0 _ C J a6 V c9 (a7.of (a3 a6 a7.lt fun e=>by have:=i6 _ e;omega)) ((G.mono hB).trans d0) U;rcases a9 with A|A
   .exact .inl A
   .exact .inr (by rw[A];exact G.size)
 refine wpX_three [b1,b2] r0 ?_ (by simp);intro j hj;simp only[List.mem_cons,List.not_mem_nil,or_false]at hj;rcases hj with rfl|rfl
 .refine⟨b4,X.1,hg.1,fun b9 H=>?_⟩;refine wp_build1 (.tmp y1) R.1 f0 e6 d4 e9 d3 e7 h7 e5 a0 g7 b5.1 h8 fun W1 a8 D i9=>?_;rw[hd.1];refine H _ _ (fun _=>Z _ fun c g _ _=>D.block c g) ?_;refine wpX_three [K,b2] r1 ?_ (by simp);intro j hj;simp only[List.mem_cons,List.not_mem_nil,or_false]at hj;rcases hj with rfl|rfl
  .refine⟨b7,X.2.1,hg.2.1,fun b9 H=>?_⟩;refine wp_append_at E1 (.tmp a5) (.tmp F) t1 R.2.1 i1 z1 f0 e6 d4 e9 d3 e7 g8 B W1 v0 M ?_ (g3.below D) a0 x1 (f7 _ _) _ E1.ty a8 ?_ g6.1 (Nat.le_trans hB D.size) fun C J V c9 d0 a3 a9=>?_
   .rw[put_ne n2];exact h5
   .exact put_get d5.1
   .rw[hd.2.1];have U:∀c,c<w.1.size->v0.ownBlock≠some c->V.1[c]? =w.1[c]? :=fun c g A=> (a3 c (Nat.lt_of_lt_of_le g D.size) A).trans (D.block c g);have g5:Below B w V:=(D.mono hB).trans d0;apply H _ _ (fun _=>Z _ fun c g A _=>U c g A);refine wpX_oneD b2 r3 X.2.2.1 hg.2.2.1 fun K2 f3=>?_;refine wp_build1 (.tmp y2) R.2.2.1 e0 d8 e4 d9 e3 e8 f4 b8 N (by rw[put_ne n5,put_ne n4];exact f6) b5.2 f5 fun W4 i5 f8 j4=>?_;rw[hd.2.2.1];have h3:∀c,c<w.1.size->v0.ownBlock≠some c->W4.1[c]? =w.1[c]? :=fun c g A=> (f8.block c (Nat.lt_of_lt_of_le g g5.size)).trans (U c g A);refine f3 _ _ (fun _=>Z _ fun c g A _=>h3 c g A) ?_
    refine h0 _ C J _ W4 (c9.below f8) i5 (g5.trans (f8.mono (Nat.le_trans hB g5.size))) h3 ?_;rcases a9 with A|A
    .exact .inl A
    .exact .inr (by rw[A];exact D.size)
  .refine⟨a4,X.2.2.1,hg.2.2.1,fun b9 H=>?_⟩;refine wp_build1 (.tmp y2) R.2.2.1 e0 d8 e4 d9 e3 e8 f4 b8 N (by rw[put_ne n4];exact f6) b5.2 f5 fun W2 a7 b6 h9=>?_;rw[hd.2.2.1];have c8:=D.trans (b6.mono D.size);refine H _ _ (fun _=>Z _ fun c g _ _=>c8.block c g) ?_;exact mid _ _ W2 (a8.below b6) a7 c8 D.size
 .refine⟨a4,X.2.2.1,hg.2.2.1,fun b9 H=>?_⟩;refine wp_build1 (.tmp y2) R.2.2.1 e0 d8 e4 d9 e3 e8 f4 b8 N f6 b5.2 f5 fun W1 a8 D i9=>?_;rw[hd.2.2.1];refine H _ _ (fun _=>Z _ fun c g _ _=>D.block c g) ?_;refine wpX_oneD b1 r2 X.1 hg.1 fun K2 f3=>?_;refine wp_build1 (.tmp y1) R.1 f0 e6 d4 e9 d3 e7 h7 e5 a0 (by rw[put_ne n1];exact g7) b5.1 h8 fun W2 a7 b6 h9=>?_;rw[hd.1];have c8:=D.trans (b6.mono D.size);apply f3 _ _ (fun _=>Z _ fun c g _ _=>c8.block c g);have:=mid W1.1.size w.1.size W2 a7 (a8.below b6) c8 rl;rw[put_comm n9,Array.setIfInBounds_comm _ _ f9.1]at this;exact this
end
section
variable {P:Program} {ops:Array Oper} {Q:Exit→Act→World→Prop} {md:Region.Mode} {late:List Nat} {S:World→Prop}
theorem ac(i:Nat)(d:Option Tmp){A:Oper}{g:Array Bool}{a:Act}(H:Hid (S w))
  (h:wpX P md ops Q late S j (g.setIfInBounds i true) (a.put d v) w)
  (J:ops[i]? =some A:=by rfl)(hd:A.dst=d:=by rfl)
  (F:(Region.noSelect ops&& (Region.free md ops g i&& ((Region.ready md ops g).contains i&& (waits3 md ops late g i&&closedB md ops g))))=true:=by kernel_rfl)
  (C:∀c a w,Q (.panic c) (a.put d v) w->Q (.panic c) a w:=by exact fun _ _ _ h=>h)
  (G:Region.wanted A (yielded ops a.tmps)=true:=by rfl)
  (E:∀w',S w'->(execOp a.eval A).run P w'= .ok (.value v) w':=by intro K D;clear D;go_simp;first|with_reducible rfl|rw[if_neg (by omega)]):wpX P md ops Q late S (j+1) g a w:=
 wpX_take3 i d J hd F C H (Or.inl ⟨G,E⟩) h
theorem aj(F:World->Prop)(i:Nat)(d:Option Tmp){A:Oper}{g:Array Bool}{a:Act}(J:Hid (S w))(M:∀w,S w->F w)
  (h:wpX P md ops Q late S j (g.setIfInBounds i true) (a.put d v) w)
  (K:ops[i]? =some A:=by rfl)(hd:A.dst=d:=by rfl)
  (G:(Region.noSelect ops&& (Region.free md ops g i&& ((Region.ready md ops g).contains i&& (waits3 md ops late g i&&closedB md ops g))))=true:=by kernel_rfl)
  (D:∀c a w,Q (.panic c) (a.put d v) w->Q (.panic c) a w:=by exact fun _ _ _ h=>h)
  (H:Region.wanted A (yielded ops a.tmps)=true:=by rfl)
  (E:∀w',F w'->(execOp a.eval A).run P w'= .ok (.value v) w':=by intro R N;go_simp;first|with_reducible rfl|rw[if_neg (by omega)]):wpX P md ops Q late S (j+1) g a w:=
 wpX_take3 i d K hd G D J (Or.inl ⟨H,fun w' C=>E w' (M w' C)⟩) h
end
def elV(ty:TypeId)(sz:Nat):El (List Value):=⟨ty,sz,fun _ _ cs x=>cs=x/\x.length=sz/\∀v∈x,v.oneCell'=true,fun _ h=>h,fun _ h=>h,fun h=>⟨h.1▸h.2.1,h.1▸h.2.2⟩,fun h=>h⟩
theorem elV_flat(ty:TypeId)(sz:Nat):Flat (elV ty sz):=fun _ _ _ _ _ _ h=>h
def nilV:Value:= .slice none 0 0
def tyK(k:Nat):TypeId×Nat:=[(2,1),(3,1),(3,1),(71,3),(9,1),(9,1),(9,1),(9,1),(9,1)].getD k (9,1)
structure Gs (B:Nat) (w:World) (vs:List Value) (Ls:List (List (List Value))):Prop where
 gr:∀k,k<9->Grow (elV (tyK k).1 (tyK k).2) B w (vs.getD k nilV) (Ls.getD k [])
 ap:∀i j c,i≠j->(vs.getD i nilV).ownBlock=some c->(vs.getD j nilV).ownBlock≠some c
 len:vs.length=9/\Ls.length=9
theorem getD_set_eq{g:Type}(l:List g)(i:Nat)(u d:g)(h:i<l.length):(l.set i u).getD i d=u:=by rw[List.getD_eq_getElem?_getD,List.getElem?_set_self h];rfl
theorem getD_set_ne{g:Type}(l:List g)(u d:g)(h:i≠j):(l.set i u).getD j d=l.getD j d:=by rw[List.getD_eq_getElem?_getD,List.getElem?_set_ne h,<-List.getD_eq_getElem?_getD]
section
variable {B:Nat} {w W:World} {vs:List Value} {Ls:List (List (List Value))}
theorem Gs.lt(h:Gs B w vs Ls)(g:(vs.getD k nilV).ownBlock=some c):B<=c/\c<w.1.size:=by
 by_cases j:k<9
 .exact(h.gr k j).own_lt g
 .rw[List.getD_eq_getElem?_getD,List.getElem?_eq_none (by rw[h.len.1];omega)]at g;simp[nilV,Value.ownBlock]at g
theorem Gs.keep(h:Gs B w vs Ls)(g:∀k c,(vs.getD k nilV).ownBlock=some c->W.1[c]? =w.1[c]?):Gs B W vs Ls:=
 ⟨fun k A=>Grow.flat (elV_flat _ _) (h.gr k A) fun c j=>g k c j,h.ap,h.len⟩
theorem Gs.below(h:Gs B w vs Ls)(j:bL w W):Gs B W vs Ls:=h.keep fun _ c g=>j.block c (h.lt g).2
theorem Gs.ch(h:Gs B w vs Ls)(A:Ch b w W)(g:b<B∨∀k,(vs.getD k nilV).ownBlock≠some b):Gs B W vs Ls:=h.keep fun k c j=>A.hpc fun e=>by
 rcases g with g|g
 .have:=(h.lt j).1;omega
 .exact g k (e▸j)
theorem Gs.chM(h:Gs B w vs Ls)(g:ChM b w W)(A:b<B):Gs B W vs Ls:=h.keep fun k c j=>g.block c (by have:=(h.lt j).1;omega)
theorem Gs.set1(h:Gs B w vs Ls)(D:i<9){L:List (List Value)}(N:Grow (elV (tyK i).1 (tyK i).2) B W u L)(Q:∀c,c<w.1.size->(vs.getD i nilV).ownBlock≠some c->W.1[c]? =w.1[c]?)(R:∀c,u.ownBlock=some c->(vs.getD i nilV).ownBlock=some c∨w.1.size<=c):Gs B W (vs.set i u) (Ls.set i L):=by
 have J:∀j c,i≠j->u.ownBlock=some c->(vs.getD j nilV).ownBlock≠some c:=fun j c S C e=>by
  rcases R c C with G|G
  .exact h.ap i j c S G e
  .have:=(h.lt e).2;omega
 refine⟨fun k M=>?_,fun a b c E A g=>?_,by simp[h.len]⟩
 .by_cases e:i=k
  .subst e;rw[getD_set_eq _ _ _ _ (by rw[h.len.1];exact D),getD_set_eq _ _ _ _ (by rw[h.len.2];exact D)];exact N
  .rw[getD_set_ne _ _ _ e,getD_set_ne _ _ _ e];exact Grow.flat (elV_flat _ _) (h.gr k M) fun c C=>Q c (h.lt C).2 fun K=>h.ap i k c e K C
 .by_cases F:i=a
  .subst F;rw[getD_set_eq _ _ _ _ (by rw[h.len.1];exact D)]at A;rw[getD_set_ne _ _ _ E]at g;exact J b c E A g
  .rw[getD_set_ne _ _ _ F]at A;by_cases H:i=b
   .subst H;rw[getD_set_eq _ _ _ _ (by rw[h.len.1];exact D)]at g;exact J a c F g A
   .rw[getD_set_ne _ _ _ H]at g;exact h.ap a b c E A g
theorem Gs.set2(h:Gs B w vs Ls)(V:i<9)(Y:j<9)(a5:i≠j){K N:List (List Value)}(a1:Grow (elV (tyK i).1 (tyK i).2) B W v0 K)(a4:Grow (elV (tyK j).1 (tyK j).2) B W v1 N)(hk:∀c,c<w.1.size->(vs.getD i nilV).ownBlock≠some c->(vs.getD j nilV).ownBlock≠some c->W.1[c]? =w.1[c]?)
  (a2:∀c,v0.ownBlock=some c->(vs.getD i nilV).ownBlock=some c∨w.1.size<=c)(a3:∀c,v1.ownBlock=some c->(vs.getD j nilV).ownBlock=some c∨w.1.size<=c)(U:∀c,v0.ownBlock=some c->v1.ownBlock≠some c):Gs B W ((vs.set i v0).set j v1) ((Ls.set i K).set j N):=by
 have M:i<vs.length/\j<vs.length/\i<Ls.length/\j<Ls.length:=by rw[h.len.1,h.len.2];exact⟨V,Y,V,Y⟩
 have X:∀k,((vs.set i v0).set j v1).getD k nilV=if k=j then v1 else if k=i then v0 else vs.getD k nilV:=fun k=>by
  by_cases e:k=j
  .subst e;rw[if_pos rfl,getD_set_eq _ _ _ _ (by simp;exact M.2.1)]
  .rw[if_neg e,getD_set_ne _ _ _ (fun g=>e g.symm)];by_cases g:k=i
   .subst g;rw[if_pos rfl,getD_set_eq _ _ _ _ M.1]
   .rw[if_neg g,getD_set_ne _ _ _ (fun D=>g D.symm)]
 have hL:∀k,((Ls.set i K).set j N).getD k []=if k=j then N else if k=i then K else Ls.getD k []:=fun k=>by
  by_cases e:k=j
  .subst e;rw[if_pos rfl,getD_set_eq _ _ _ _ (by simp;exact M.2.2.2)]
  .rw[if_neg e,getD_set_ne _ _ _ (fun g=>e g.symm)];by_cases g:k=i
   .subst g;rw[if_pos rfl,getD_set_eq _ _ _ _ M.2.2.1]
   .rw[if_neg g,getD_set_ne _ _ _ (fun D=>g D.symm)]
 have H:∀k c,k≠i->(vs.getD k nilV).ownBlock=some c->v0.ownBlock≠some c:=fun k c e E g=>by
  rcases a2 c g with H|H
  .exact h.ap i k c (fun D=>e D.symm) H E
  .have:=(h.lt E).2;omega
 have Z:∀k c,k≠j->(vs.getD k nilV).ownBlock=some c->v1.ownBlock≠some c:=fun k c e E g=>by
  rcases a3 c g with H|H
  .exact h.ap j k c (fun D=>e D.symm) H E
  .have:=(h.lt E).2;omega
 refine⟨fun k a0=>?_,fun a b c R C A=>?_,by simp[h.len]⟩
 .rw[X,hL];by_cases e:k=j
  .subst e;simpa using a4
  .by_cases g:k=i
   .subst g;simpa [e]using a1
   .simp only[e,g,if_false];exact Grow.flat (elV_flat _ _) (h.gr k a0) fun c E=>hk c (h.lt E).2 (fun D=>h.ap i k c (fun S=>g S.symm) D E) fun D=>h.ap j k c (fun S=>e S.symm) D E
 .rw[X]at C A;by_cases Q:a=j
  .rw[if_pos Q]at C;have G:b≠j:=fun e=>R (Q.trans e.symm);rw[if_neg G]at A;by_cases F:b=i
   .rw[if_pos F]at A;exact U c A C
   .rw[if_neg F]at A;exact Z b c G A C
  .rw[if_neg Q]at C;by_cases J:a=i
   .rw[if_pos J]at C;by_cases G:b=j
    .rw[if_pos G]at A;exact U c C A
    .rw[if_neg G]at A;have F:b≠i:=fun e=>R (J.trans e.symm);rw[if_neg F]at A;exact H b c F A C
   .rw[if_neg J]at C;by_cases G:b=j
    .rw[if_pos G]at A;exact Z a c Q C A
    .rw[if_neg G]at A;by_cases F:b=i
     .rw[if_pos F]at A;exact H a c J C A
     .rw[if_neg F]at A;exact h.ap a b c R C A
end
def cI(x:Int):List Value:=[.int .i64 x]
def cS(s:ByteArray):List Value:=[.string s]
def cT(t:Th):List Value:=[.string t.name,.int .i64 (t.locals:Int),nilV]
def lsP(P:Pg):List (List (List Value)):=[P.vars.map cI,P.arrays.map cI,P.chans.map cI,P.threads.map cT,P.nv.map cS,P.na.map cS,P.nm.map cS,P.nc.map cS,P.nh.map cS]
def pcC(P:Pg)(vs:List Value):List Value:=[vs.getD 0 nilV,vs.getD 1 nilV,.int .i64 (P.mutexes:Int),.int .i64 (P.conds:Int),vs.getD 2 nilV,vs.getD 3 nilV,.int .i64 (P.main:Int),.int .i64 (P.stmts:Int),vs.getD 4 nilV,vs.getD 5 nilV,vs.getD 6 nilV,vs.getD 7 nilV,vs.getD 8 nilV]
theorem Gs.nil(B:Nat)(w:World):Gs B w (List.replicate 9 nilV) (lsP zPg):=by
 have h:∀k,(List.replicate 9 nilV).getD k nilV=nilV:=fun k=>by rcases k with _|_|_|_|_|_|_|_|_|k<;>rfl
 have A:∀k,(lsP zPg).getD k []=[]:=fun k=>by rcases k with _|_|_|_|_|_|_|_|_|k<;>rfl
 refine⟨fun k _=>?_,fun i j c _ g=>?_,z,z⟩
 .rw[h,A];exact Grow.nil _ _ _
 .rw[h]at g;simp[nilV,Value.ownBlock]at g
section
variable {w0 w W:World} {F g h:Nat} {fc:List Value} {D D2:PF} {mv:Value} {ns:List ByteArray}
theorem blk_clo(j:Bb w0 w F g h fc D2 mv W)(C:Grow elS (w.1.size+2) W mv ns)(A:Loc D D2 ns)(J:D2.loc<=32)(u:FrameMode):CallsD Tryz.prog 116 #[Pt (w.1.size+1),Pt w.1.size] u W fun e G w'=>G=u/\(e= .returned (.tuple #[])/\Kp W w' F g/\Fi w' F g h fc {D with n:=D2.n,mo:=D2.mo}):=by obtain⟨U,S,rfl,-⟩:=C.form;have V:=j.lt;apply (clo_any u j.f j.z j.m ((Ro.of C).weak fun c N=>by have R:=N;omega) (by omega) ⟨by rw[A.2.2.1];omega,J⟩).mono;rintro e G w' ⟨rfl,rfl,H,E⟩;refine⟨z,z,H,?_⟩;obtain⟨-,M,K,Q⟩:=A;rw[M,K,Nat.add_sub_cancel]at E;rw[<-Q];exact E
theorem blk_gone{er:Flw}(j:Bb w0 w F g h fc D2 mv W)(J:Grow elS (w.1.size+2) W mv ns)(G:Loc D D2 ns)(H:D2.loc<=32)
  (hd:A.defers=[{target:= .fn (.func 116) #[Pt (w.1.size+1),Pt w.1.size],args:= #[]}]):
  bodyPostD Tryz.prog Tryz.f80 (BP w F g h fc D (.error er)) (.panic [flawN er]) A W:=by
 show Leaves Tryz.prog Tryz.f80 A.tmps (BP w F g h fc D (.error er)) A.defers (.panicking [flawN er]) W;rw[hd];apply leaves_cons (f:=116) (args:= #[Pt (w.1.size+1),Pt w.1.size]) (by simp) (by simp[go_sem]);apply (blk_clo j J G H _).mono;rintro e M w' ⟨rfl,rfl,E,K⟩;have C:BP w F g h fc D (.error er) (.panicked [flawN er]) w':=⟨j.k.trans E,z,D2.n,D2.mo,K⟩;simp[Leaves,settle,go_sem,flawN]at C ⊢;exact C
theorem blk_done{acc:List St}(C:Bb w0 w F g h fc D2 mv W)(N:Grow elS (w.1.size+2) W mv ns)(M:Loc D D2 ns)(J:D2.loc<=32)(G:Grow elSt (w.1.size+2) W v0 acc)(U:A.tmps.getD 4 undef=v0)
  (hd:A.defers=[{target:= .fn (.func 116) #[Pt (w.1.size+1),Pt w.1.size],args:= #[]}]):
  bodyPostD Tryz.prog Tryz.f80 (BP w F g h fc D (.ok (acc,D2.n,D2.mo))) .ret A W:=by
 show Leaves Tryz.prog Tryz.f80 A.tmps (BP w F g h fc D (.ok (acc,D2.n,D2.mo))) A.defers .returning W;rw[hd];apply leaves_cons (f:=116) (args:= #[Pt (w.1.size+1),Pt w.1.size]) (by simp) (by simp[go_sem]);apply (blk_clo C N M J _).mono;rintro e u' w' ⟨rfl,rfl,H,X⟩;obtain⟨j,E,rfl,V⟩:=G.form;have Z:=C.lt;have K:=(G.kp H (by omega) (by omega)).sts;have Q:A.tmps[4]?.getD undef= .slice j acc.length E:=by rw[<-U];simp
 have R:BP w F g h fc D (.ok (acc,D2.n,D2.mo)) (.returned (.slice j acc.length E)) w':=⟨C.k.trans H,X,j,E,z,V,K.weak fun c S=>by have Y:=S;show w.1.size<=c;omega⟩;simp[Leaves,settle,results,Tryz.f80,go_sem,Q];exact R
end
structure Ol (wr W6:World) (B bA:Nat) (mv:Value) (W:World):Prop where
 o1:∀c,c<wr.1.size->B<=c->mv.ownBlock≠some c->W.1[c]? =wr.1[c]?
 o2:∀c,bA<c->c<W6.1.size->W.1[c]? =W6.1[c]?
 o3:W6.1.size<=W.1.size
 o4:wr.1.size<=bA/\bA<W6.1.size/\B<=wr.1.size
section
variable {wr W6 W W':World} {B bA:Nat} {mv:Value}
theorem Ol.step(h:Ol wr W6 B bA mv W)(A:∀c,c<W.1.size->B<=c->c≠bA->mv.ownBlock≠some c∨bA<c->W'.1[c]? =W.1[c]?)(D:W.1.size<=W'.1.size):Ol wr W6 B bA mv W':=by obtain⟨K,G,E,J,C,H⟩:=h;exact⟨fun c g w j=> (A c (by omega) w (by omega) (.inl j)).trans (K c g w j),fun c g F=> (A c (by omega) (by omega) (by omega) (.inr g)).trans (G c g F),Nat.le_trans E D,J,C,H⟩
theorem Ol.ch(h:Ol wr W6 B bA mv W)(j:Ch b W W')(g:b<B∨b=bA):Ol wr W6 B bA mv W':=h.step (fun c _ A w _=>by obtain⟨o,vs,rfl⟩:=j;exact heap_setCells (by rcases g with g|g<;>omega) _ _ _) (Nat.le_of_eq j.size.symm)
theorem Ol.chM(h:Ol wr W6 B bA mv W)(g:ChM b W W')(j:b<B):Ol wr W6 B bA mv W':=h.step (fun c _ w _ _=>g.block c (by omega)) (Nat.le_of_eq g.size.symm)
theorem Ol.below(h:Ol wr W6 B bA mv W)(g:bL W W'):Ol wr W6 B bA mv W':=h.step (fun c j _ _ _=>g.block c j) g.size
theorem Ol.acc(h:Ol wr W6 B bA mv W){l:List St}{mv':Value}(E:Grow (elX elSt fun c=>mv.ownBlock=some c) B wr v0 l)(D:∀c,mv.ownBlock=some c->v0.ownBlock≠some c)(A:∀c,mv'.ownBlock=some c->mv.ownBlock=some c∨wr.1.size<=c):Grow (elX elSt fun c=>mv'.ownBlock=some c) B W v0 l:=E.keepX (fun c j C g=>h.o1 c j C g) (by have:=h.o3;have:=h.o4;omega) (fun c j g=>D c g j) (fun c j g=>by
 rcases A c g with w|w
 .exact w
 .omega)
theorem Ol.st(h:Ol wr W6 B bA mv W){cs:List Value}{s:St}(w:StL (fun c=>bA<c/\c<W6.1.size) W6 cs s):StL (fun c=>bA<c/\c<W6.1.size) W cs s:=w.keep fun b o u g j=>by rw[<-j];simp[World.cellF,h.o2 b g.1 g.2]
end
theorem ol_new{wr:World}{B:Nat}{cs:List Value}{s:St}(h:Ol wr w B j v1 W)(A:StL (fun c=>j<c/\c<w.1.size) w cs s)(D:B<=j)(C:∀c,v0.ownBlock=some c->c<j){mv':Value}(g:∀c,mv'.ownBlock=some c->c<j∨w.1.size<=c):(elX elSt fun c=>mv'.ownBlock=some c).L (fun c=>B<=c/\v0.ownBlock≠some c) W cs s:=(h.st A).weak fun c E=>⟨⟨by omega,fun e=>by have:=C c e;omega⟩,fun e=>by have:=g c e;omega⟩
theorem own_new{wr:World}{B:Nat}(C:v0.ownBlock=some j∨j=W.1.size)(h:Ol wr w B g v0 W)(_D:∀c,v0.ownBlock=some c->c<g):v0.ownBlock=some j∨w.1.size<=j:=by
 rcases C with A|A
 .exact .inl A
 .exact .inr (by rw[A];exact h.o3)
theorem Ch.kpF{F:Nat}{w':World}(h:Ch F w w'):Kp w w' F g:=⟨h.kp.os,h.kp.tape,h.kp.output,h.kp.size,fun c A j _=>h.kp.block c A j j⟩
theorem Bb.setFc{F h:Nat}{fc:List Value}{D D':PF}(H:Bb w0 w F g h fc D v0 W)(C:Blk V F 101 ((fc++pfT g h D).set (13+j) v))(A:Ch F W V)(G:D'.L=D.L)(E:(pfT g h D).set j v=pfT g h D'):Bb w0 w F g h fc D' v0 V:=H.call A.kpF (H.f.setC C A G E)
theorem infoStr:(Tryz.prog.info? 9).map (fun i=> (i.zero.map (fun z=>z.cells.size),i.size,decide (i.bytes<=1024)))=some (some 1,1,true):=by kernel_rfl
theorem zero26:∃i z,Tryz.prog.info? 26=some i/\i.zero=some z/\z.cells=([.slice none 0 0]:List Value).toArray:=infoZ (by kernel_rfl)
theorem info26:(Tryz.prog.info? 26).map (·.size)=some 1:=by kernel_rfl
theorem makeFn(g:Fn)(first cap:Array Value)(w:World):(Instr.makeFunc g first cap).run Tryz.prog w= .ok (.func g first cap) w:=rfl
def StCp(w0:World)(F g h:Nat)(fc:List Value)(s:St):Prop:=∀ (D:PF) (sc:List Value) (w:World),Fi w F g h fc D->PIv D->Below w0.1.size w0 w->StL (fun _=>True) w0 sc s->Calls Tryz.prog 117 #[.pointer (some ⟨F,0,none⟩),.agg sc.toArray] w (SPp w F g h fc D (fSt D.L D.loc D.n D.mo s))
theorem pblk_step{F h:Nat}{fc:List Value}(m8:w0.1.size<=F/\w0.1.size<=g)(l:List St)(q7:∀s∈l,StCp w0 F g h fc s):BlkC w0 F g h fc l:=by
 intro D a cap w m0 v4 hw HF hI;have w2:=makeFn;obtain⟨u7,g7,g8⟩:=under60;obtain⟨i6,z6,v1,v5,t4⟩:=zero60;obtain⟨i2,z2,t8,t7,u2⟩:=zero26;obtain⟨i0,z0,a8,b5,a7,b7,f8⟩:=info_el infoSt;obtain⟨i9,z9,e4,d8,f4,e1,i3⟩:=info_el infoStr;have e5:=O (And.intro a8 (And.intro b5 (And.intro a7 (And.intro b7 f8))));have f1:=O (And.intro e4 (And.intro d8 (And.intro f4 (And.intro e1 i3))));have g1:Hid (Tryz.prog.underlying 44=some (.slice 60)):=O (by kernel_rfl);have p2:Hid (Tryz.prog.underlying 26=some (.slice 9)):=O (by kernel_rfl);obtain⟨a2,HN⟩:∃a2,l.length=a2:=⟨_,z⟩;rw[HN]at m0 ⊢;have n5:=O fun _:True=>m0;have t6:=O q7;have HI:=O hI;have HW:=O (And.intro hw m8)
 obtain⟨R,HR⟩:∃R,fSts D.L D.loc D.n D.mo l=R:=⟨_,z⟩;rw[HR];go_enter_defers Tryz.func80,Tryz.ntmps80;refine wk fun KK V=>?_;go_wp2_with (first
  | (with_reducible refine aa 2 (.box 96 _) ?_;refine wpList_box_blk z (.tmp 0) z [Pt F] z w.1.size z ?_;intro W1 k1 b1 o0;have K1:=O k1;have B1:=O b1;clear k1 b1)
 )
 refine V.o _ _ ?_;refine wk fun KK V=>?_;go_wp2_with (first
  | (with_reducible refine aa 5 (.alloc 26) ?_;refine wpList_alloc_blk t8 t7 u2 z z (w.1.size+1) o0 ?_;intro W2 k2 b2 s2;have K2:=O k2;have B2:=O b2;clear k2 b2)
 )
 refine V.o _ _ ?_;have h5:=B1.o.trans (B2.o.mono B1.o.size);have HB:Hid (Bb w0 w F g h fc D (.slice none 0 0) W2):=O ⟨Kp.below h5,HF.up h5,K1.o.below B2.o,K2.o,HW.o.1.trans (h5.mono HW.o.1.size),HF.lts,HW.o.2⟩;refine wk fun KK V=>?_;go_wp2_with fail;refine V.o _ _ ?_;clear V KK;refine wk fun KK V=>?_;go_wp2_with fail;refine V.o _ _ ?_;clear V KK;refine wk fun KK V=>?_;go_wp2_with fail
 go_loopg [6,12] a2 (fun x ov iv wr=>∃ (i:Nat) (acc:List St) (ns:List ByteArray) (A:PF) (mv:Value),i<=a2/\x=a2-i/\iv=I i/\Hid (acc.length=i/\i<=A.n)/\Hid (Bb w0 w F g h fc A mv wr)/\Hid (Grow elS (w.1.size+2) wr mv ns)/\Hid (Grow (elX elSt fun c=>mv.ownBlock=some c) (w.1.size+2) wr ov acc/\∀c,mv.ownBlock=some c->ov.ownBlock≠some c)/\Hid (Loc D A ns)/\Hid (PIv A)/\Hid (R=mapE (fun q=> (acc++q.1,q.2)) (fSts A.L A.loc A.n A.mo (l.drop i))));case atStart=>exact⟨0,[],[],D,.slice none 0 0,Nat.zero_le _,z,z,O ⟨z,Nat.zero_le _⟩,HB,O (Grow.nil _ _ _),O ⟨Grow.nil _ _ _,fun c E=>by simp[Value.ownBlock]at E⟩,O (Loc.refl D),HI,O (by rw[<-HR];cases h:fSts D.L D.loc D.n D.mo l<;>simp[mapE,h])⟩
 case round=>
  clear HB HI HR;obtain⟨i,acc,ns,A,mv,hi,rfl,rfl,d3,HB,d1,Z,e7,HI,j0⟩:=hrel;obtain⟨ga,g9,rfl,t2⟩:=Z.o.1.form;obtain⟨U,X,rfl,t3⟩:=d1.o.form;clear t2 t3;obtain⟨M,hM⟩:=eX (acc.length);rw[hM]at Z ⊢;obtain⟨Q,hQ⟩:=eX (ns.length);rw[hQ]at Z d1 HB;have w4:=O (And.intro hM hQ);clear hM hQ;by_cases g4:i<a2
  .have l7:(i:Int)< (a2:Int):=by omega
   have w1:(0:Int)<=(i:Int):=by omega
   have o8:Hid (wrap64 ((i:Int)+1)=((i+1:Nat):Int)):=O (by have J:=(n5.o trivial).1;have h2:=(n5.o trivial).2;have:=IntWalk.wrap64_in ((i:Int)+1) (by omega);rw[this];omega)
   obtain⟨b2,m3,sc,rfl,-,t1,i1⟩:=v4.at i (by rw[HN];exact g4);have m5:l.getD i default∈l:=by rw[List.getD_eq_getElem?_getD,List.getElem?_eq_getElem (by rw[HN];exact g4)];exact List.getElem_mem _
   have r3:l.drop i=l.getD i default::l.drop (i+1):=by rw[List.drop_eq_getElem_cons (by rw[HN];exact g4),List.getD_eq_getElem?_getD,List.getElem?_eq_getElem (by rw[HN];exact g4)];rfl
   have g6:=j0.o;rw[r3,fSts_con]at g6;have i4:=fun W (hw:bL w0 W) (hf:Fi W F g h fc A)=>t6.o _ m5 A sc W hf HI.o hw i1;generalize l.getD i default=s at *;obtain⟨r,hr⟩:=eX (fSt A.L A.loc A.n A.mo s);rw[hr]at g6;simp only[hr]at i4;have p8:=O i4;have k9:=O g6;have i5:=O hr;have n9:Hid (wr.rangeAt b2 (m3+i*25) sc):=O fun t v hv=>below_cl HB.o.b _ _ _ (by simpa using t1 t v hv);have g3:=O i1.cells;have u5:=i1.cells.1;obtain⟨H,j2⟩:=eX (wr.1.size);have a5:Hid (w.1.size+2<=H/\wr.1.size=H):=O ⟨by rw[<-j2];exact HB.o.sz,j2⟩;clear g6 i4 hr t1 i1 r3 m5 j0;go_wp2_with (first
    | (with_reducible refine l1 15 60 ?_;refine wpList_load_mid z 60 (.tmp 14) z b2 (m3+i*25) z sc u7 n9.o g7 g8 (by rw[g3.o.1];exact info64) ?_)
    | (with_reducible refine aa 8 (.alloc 60) ?_;refine wpList_alloc_blk v1 v5 t4 z z H j2 ?_;intro W4 k4 b4 s4;have K4:=O k4;have B4:=O b4;clear k4 b4)
    | ((with_reducible refine ah (.store 60 (.tmp 8) (.tmp 15)) ?_);refine wpList_store_ch info64 z (.tmp 8) (.tmp 15) z H sc _ z z K4.o z g3.o ?_;intro W5 k5 c5;have K5:=O (And.intro k5 c5);clear k5 c5;have c9:=O ((HB.o.below B4.o).ch a5.o.1 K5.o.2);have y0:=c9.o.z.ptr)
    | (with_reducible refine l1 17 60 ?_;refine wpList_load_blk g7 g8 info64 z (.tmp 8) z H sc z (O K5.o.1) u5 ?_)
   )
   have h8:Hid (Below wr.1.size wr W5):=O (K5.o.2.below (by rw[a5.o.2];exact Nat.le_refl _) B4.o);refine(p8.o W5 c9.o.b c9.o.f).mono ?_;clear y0 s4;rintro e W6 ⟨i7,hm⟩;have e0:=O i7;have l7:=HB.o.lt;have Y:=O l7;have f9:=O ((d1.o.below h8.o).kp i7 (by omega) (by omega));clear i7 l7;rcases r with er|⟨s',n2,a1⟩
   .obtain⟨rfl,n3,u3,hf⟩:=hm;have hq:R= .error er:=k9.o;rw[hq];exact blk_gone (c9.o.call e0.o hf) f9.o (e7.o.cnt n3 u3) HI.o.1 z
   obtain⟨hf,cs,rfl,hs⟩:=hm;obtain⟨k,li,co,K,t,x,y,body,els,id,sl,ot,lo⟩:=s;obtain⟨x',y',b',e',h9,d7,d9,rfl,p7⟩:=fSt_form i5.o;have h6:=O (And.intro (fSt_cnt _ _ _ _ _ _ _ _ i5.o) (fSt_n _ _ _ _ _ _ _ _ i5.o HI.o.2));have d0:=O hs.cells;have f6:Hid (cs[0]? =some (I k)/\cs[3]? =some (.string K)/\cs[22]? =some (I h9)):=O (by unfold StL at hs;obtain⟨xc,yc,q1,q2,q3,q4,u8,hx,hy,-⟩:=hs;have J:=stC_at (C:=cs) u8 hx.cells.1 hy.cells.1;exact⟨J.1,J.2.2.2.1,J.2.2.2.2.2.2.2.2.1⟩)
   have g5:=O (c9.o.call e0.o hf);have g2:Hid (Blk W6 H 60 sc):=O (K5.o.1.kp e0.o (by have:=Y.o;have:=a5.o.1;omega) (by have:=Y.o;have:=a5.o.1;omega));have o9:Hid (StL (fun c=>H<c/\c<W6.1.size) W6 cs (.mk k li co K t x' y' b' e' (A.n:Int) h9 d7 d9)):=O (hs.bound.weak fun c E=>⟨by have J:W5.1.size<=c:=E.1;have:=K5.o.1.lt;omega,E.2⟩);have h7:Hid (Ol wr W6 (w.1.size+2) H (.slice U Q X) W6):=O ⟨fun c E hB _=> (e0.o.block c (Nat.lt_of_lt_of_le E h8.o.size) (by have:=Y.o;omega) (by have:=Y.o;omega)).trans (h8.o.block c E),fun _ _ _=>z,rl,by rw[a5.o.2];exact rl,Nat.lt_of_lt_of_le K5.o.1.lt e0.o.size,HB.o.sz⟩;have j8:=O p7;have c8:Hid (∀c,(Value.slice U Q X).ownBlock=some c->c<H):=O fun c E=>by have:=(d1.o.own_lt E).2;rw[a5.o.2]at this;exact this
   have m2:Hid (∀c,(Value.slice ga M g9).ownBlock=some c->c<H):=O fun c E=>by have:=(Z.o.1.own_lt E).2;rw[a5.o.2]at this;exact this
   have a6:Hid (w.1.size+2<=H):=O a5.o.1;clear hs hf p7 c9 d1 HB h8 K5 K4 B4 p8 n9;have a8:=e5.o.1;have b5:=e5.o.2.1;have a7:=e5.o.2.2.1;have b7:=e5.o.2.2.2.1;have f8:=e5.o.2.2.2.2;by_cases hk:k=1
   .subst hk;obtain⟨rfl,s6,u6⟩:=j8.o z;have n8:=O s6;have j7:Hid (A.loc<32):=O (by have:=HI.o.1;omega);have e4:=f1.o.1;have d8:=f1.o.2.1;have f4:=f1.o.2.2.1;have e1:=f1.o.2.2.2.1;have i3:=f1.o.2.2.2.2;have r2:Tryz.prog.follows .mixedOrders=true:=by kernel_rfl
    clear s6 u6 j8;go_wp2_with (first
     | ((with_reducible refine ah (.store 60 (.tmp 8) (.tmp 18)) ?_);refine wpList_store_ch info64 z (.tmp 8) (.tmp 18) z H cs _ z z g2.o g3.o.1 d0.o ?_;intro W7 k7 c7;have b9:=O k7;have d4:=O (g5.o.ch a6.o c7);have f3:=O (h7.o.ch c7 (.inr z));have d5:=O (Grow.flat elS_flat f9.o fun c E=>c7.hpc (by have:=c8.o c E;omega));have a0:=(b9.o.cell 0).trans f6.o.1;clear k7 c7 g5 h7 f9 g2)
    )
    obtain⟨S,hV⟩:=eX (W7.drew);have G:Hid (Bb w0 w F g h fc {A with n:=n2,mo:=a1} (.slice U Q X) S/\Blk S H 60 cs):=O (by rw[<-hV];exact⟨d4.o.below (Below.refl _ _).drew,b9.o.drew⟩);have e9:Hid (Ol wr W6 (w.1.size+2) H (.slice U Q X) S):=O (by rw[<-hV];exact f3.o.below (Below.refl _ _).drew);have e3:Hid (Grow elS (w.1.size+2) S (.slice U Q X) ns):=O (by rw[<-hV];exact d5.o.below (Below.refl _ _).drew);clear d4 b9 f3 d5 a0;refine wp_alt (P0:=fun _ _ _=>False) ?_ (fun _ _ _ _ hf=>hf.elim);refine wp_region_x [9] (fun W=>Bb w0 w F g h fc {A with n:=n2,mo:=a1} (.slice U Q X) W/\Blk W H 60 cs) r2 ?_;rw[hV];clear hV;refine af _ 0 (fun W1 N=>N.1.z.ptr) ?_;refine ak 1 ?_
    refine af _ 3 (fun W1 N=>N.1.f.c13) ?_;refine nm ?_;refine ag 4 ?_;refine af _ 5 (fun W1 N=> (N.2.cell 3).trans f6.o.2.1) ?_;refine ag 6 ?_;refine af _ 7 (fun W1 N=> (N.2.cell 22).trans f6.o.2.2) ?_;refine nm ?_;refine ag 8 ?_;refine nm ?_;refine oD 9 fun j6 hK=>?_;obtain⟨W9,p6,p0,d2⟩:=put_nm G.o.1.f.m ⟨K,0,A.loc⟩ n8.o;have v3:(Instr.mapUpdate 97 (.map (some g)) (.string K) (.agg #[.int .i64 0,.int .i64 (A.loc:Int)])).run Tryz.prog S= .ok () W9:=p6;have h0:=O (G.o.1.map d2 p0);have l4:=O (d2.blk (by have:=Y.o;have:=a6.o;omega) G.o.2);have m4:=O (e9.o.chM d2 (by have:=Y.o;omega));have p9:=O (e3.o.keep (fun c _ hB=>d2.block c (by have:=Y.o;omega)) (Nat.le_of_eq d2.size.symm))
    clear p6 p0 d2;go_simp;refine hK _ _ (fun h=>by cases h) ?_;clear hK j6 v3 G e9 e3;try simp only[Act.put]
    refine dn ?_;have y5:=h0.o.m.ptr;have y0:=h0.o.z.ptr;have a3:=(l4.o.cell 3).trans f6.o.2.1;have w3:(A.loc:Int)+1<=1000:=by have:=j7.o;omega
    go_wp2_with (first
     | ((with_reducible refine aa 34 (.buildSlice _ _ _) ?_);refine wpList_build1 z (.tmp 33) z p2.o e4 d8 f4 e1 (by decide) (by decide) (.string K) [.string K] z z z ?_;intro Wc kc bc u0;have KC:=O kc;have j1:=O (h0.o.below bc);have i8:=O (l4.o.below bc);have k6:=O (m4.o.below bc);have n6:=O (p9.o.below bc);have v2:=O j1.o.sz;clear kc bc u0 h0 l4 m4 p9 y5 y0 a3)
     | (at_builtin;refine wpList_append_at elS z (.tmp 31) (.tmp 34) 26 z i9 z9 p2.o e4 d8 f4 e1 (by decide) i3 (w.1.size+2) Wc (.slice U Q X) ns z n6.o [.string K] K z _ 9 KC.o z (by have:=e7.o.2.2.1;have:=j7.o;omega) v2.o ?_;intro gm s7 v6 q5 k8 k0 r7;have p3:=O q5;have m1:=O (j1.o.below2 k8);have l2:=O (And.intro (i8.o.of (k0 H i8.o.lt (fun e=>by have:=c8.o _ e;omega))) k8.size);have n7:=O (k6.o.step (fun c J h2 h3 h4=>k0 c J (by rcases h4 with h4|h4;exact h4;exact fun e=>by have:=c8.o c e;omega)) l2.o.2);have t5:=O (own_new r7 k6.o c8.o);clear q5 k8 k0 r7 j1 i8 k6 n6)
     | (with_reducible refine s1 26 5 ?_;refine wpList_store_one info26 z (.tmp 5) (.tmp 35) z (w.1.size+1) 0 26 (.slice (some ⟨gm,0,none⟩) (ns.length+1) s7) _ z z z z m1.o.m (by simp) ?_;intro v8 p1 e6;have b6:=O (m1.o.setM p1 e6);have o5:=O (e6.blk (by have:=a6.o;omega) l2.o.1);have o7:=O (n7.o.ch e6 (.inl (by omega)));have q0:=O (e6.grow p3.o (by omega));have y0:=b6.o.z.ptr;have c17:=b6.o.f.c17;have v0:=b6.o.f.f.frozen 17;clear p1 e6 m1 l2 n7 p3)
     | (with_reducible refine s1 3 42 ?_;refine wpList_store_one info3 z (.tmp 42) (.tmp 40) z F 17 101 (I ((A.loc:Int)+1)) _ z z z z b6.o.f.f (by simp[pfT,b6.o.f.lp]) ?_;intro u4 p5 c13;have l9:=O (b6.o.setFc (j:=4) (D':={A with L:=A.L++[Nm.mk K 0 A.loc],loc:=A.loc+1,n:=n2,mo:=a1}) p5 c13 z (by simp[pfT]));have p4:=O (c13.blk (by have:=Y.o;have:=a6.o;omega) o5.o);have q6:=O (o7.o.ch c13 (.inl (by have:=Y.o;omega)));have j5:=O (c13.grow q0.o (by have:=Y.o;omega));clear p5 c13 b6 o5 o7 q0 y0 c17 v0)
    )
    obtain⟨S,hV⟩:=eX (u4.drew);obtain⟨a4,j4⟩:=eX (Value.slice (some ⟨gm,0,none⟩) (ns.length+1) s7);have u9:Hid (a4.ownBlock=some gm):=O (by rw[<-j4];rfl);rw[j4]at l9 j5;clear j4;have G:Hid (Bb w0 w F g h fc {A with L:=A.L++[Nm.mk K 0 A.loc],loc:=A.loc+1,n:=n2,mo:=a1} a4 S):=O (by rw[<-hV];exact l9.o.below (Below.refl _ _).drew);have r6:=O (show Blk S H 60 cs by rw[<-hV];exact p4.o.drew);have e9:Hid (Ol wr W6 (w.1.size+2) H (.slice U Q X) S):=O (by rw[<-hV];exact q6.o.below (Below.refl _ _).drew);have e3:Hid (Grow elS (w.1.size+2) S a4 (ns++[K])):=O (by rw[<-hV];exact j5.o.below (Below.refl _ _).drew);clear l9 p4 q6 j5;refine wp_alt (P0:=fun _ _ _=>False) ?_ (fun _ _ _ _ hf=>hf.elim)
    refine wp_region_x [12] (fun W=>Bb w0 w F g h fc {A with L:=A.L++[Nm.mk K 0 A.loc],loc:=A.loc+1,n:=n2,mo:=a1} a4 W) r2 ?_;rw[hV];clear hV;refine af _ 0 (fun W1 N=>N.z.ptr) ?_;refine af _ 1 (fun W1 N=>N.z.ptr) ?_;refine ak 2 ?_;refine nm ?_;refine af _ 4 (fun W1 N=>N.f.c18) ?_;refine af _ 5 (fun W1 N=>N.z.ptr) ?_;refine ak 6 ?_;refine nm ?_;refine af _ 8 (fun W1 N=>N.f.c17) ?_;refine ai 9 ?_;refine nm ?_;refine oD 12 fun j6 hK=>?_;refine wp_store_one info3 (.tmp 54) (.tmp 52) z F 18 101 (I ((max a1 (A.loc+1):Nat):Int)) _ z (by refine congrArg (Value.int IntKind.i64) ?_;omega) z z G.o.f.f (by simp[pfT,G.o.f.lp]) ?_;intro v7 o6 c14
    have q8:=O (G.o.setFc (j:=5) (D':={A with L:=A.L++[Nm.mk K 0 A.loc],loc:=A.loc+1,n:=n2,mo:=max a1 (A.loc+1)}) o6 c14 z z);have q9:=O (c14.blk (by have:=Y.o;have:=a6.o;omega) r6.o);have m7:=O (e9.o.ch c14 (.inl (by have:=Y.o;omega)));have m9:=O (c14.grow e3.o (by have:=Y.o;omega));refine hK _ _ (fun h=>by cases h) ?_;clear hK j6 o6 c14 G r6 e9 e3;try simp only[Act.put]
    refine dn ?_;have l8:Hid (∀c,a4.ownBlock=some c->c<H/\(Value.slice U Q X).ownBlock=some c∨W6.1.size<=c):=O fun c E=>by
     rw[u9.o]at E;cases E;rcases t5.o with J|J
     .exact .inl ⟨c8.o _ J,J⟩
     .exact .inr J
    go_wp2_with (first
     | (with_reducible refine l1 56 60 ?_;refine wpList_load_blk g7 g8 info64 z (.tmp 8) z H cs z q9 d0.o.1 ?_)
     | ((with_reducible refine aa 57 (.buildSlice _ _ _) ?_);refine wpList_build1 z (.tmp 56) z g1.o a8 b5 a7 b7 (by decide) (by decide) (.agg cs.toArray) cs z z d0.o.1 ?_;intro Wb kb bb sb;have KB:=O kb;have f0:=O (q8.o.below bb);have a9:=O (m7.o.below bb);have b8:=O (m9.o.below bb);have l3:=O (a9.o.acc (mv':=a4) Z.o.1 Z.o.2 (fun c E=> (l8.o c E).imp (·.2) (fun h=>by have:=a9.o.o4;omega)));have j9:=O (ol_new (mv':=a4) a9.o o9.o a6.o m2.o (fun c E=> (l8.o c E).imp (·.1) (fun h=>h)));have l5:=O f0.o.sz;clear kb bb sb q8 m7 m9 q9)
     | (at_builtin;refine wpList_append_at (elX elSt fun c=>a4.ownBlock=some c) z (.tmp 55) (.tmp 57) 44 z i0 z0 g1.o a8 b5 a7 b7 (show 0<25 by decide) f8 (w.1.size+2) Wb (.slice ga M g9) acc z l3.o cs (.mk 1 li co K t x' y' b' e' (A.n:Int) (A.loc:Int) d7 d9) j9.o _ 60 KB.o z (by have:=d3.o;have:=HI.o.2;omega) l5.o ?_;intro gb t9 u1 f7 f2 f5 d6;have l6:=O f7;have j3:=O f2;have e8:=O (And.intro f5 d6);clear f7 f2 f5 d6)
    )
    have n0:Hid (∀c,a4.ownBlock=some c->(Value.slice ga M g9).ownBlock≠some c):=O fun c E e=>by
     rcases l8.o c E with J|J
     .exact Z.o.2 c J.2 e
     .have:=m2.o c e;have:=a9.o.o4;omega
    go_roundg (a2- (i+1));case measure=>omega
    case rel=>
     refine⟨i+1,acc++[.mk 1 li co K t x' y' b' e' (A.n:Int) (A.loc:Int) d7 d9],ns++[K],{A with L:=A.L++[Nm.mk K 0 A.loc],loc:=A.loc+1,n:=n2,mo:=max a1 (A.loc+1)},a4,by omega,z,congrArg (Value.int .i64) o8.o,O ⟨by have:=d3.o;simp;omega,by have:=d3.o;have:=h6.o;show i+1<=n2;omega⟩,O (f0.o.below2 j3.o),O (Grow.flat elS_flat b8.o fun c E=>e8.o.1 c (b8.o.own_lt E).2 (n0.o c E)),O ⟨l6.o,fun c E e=>?_⟩,O (e7.o.snoc n8.o n2 (max a1 (A.loc+1))),O ⟨j7.o,h6.o.2⟩,O ?_⟩
     .have e2:gb=c:=by simpa [Value.ownBlock]using e
      subst e2;rcases e8.o.2 with J|J
      .exact n0.o _ E J
      .have:=(b8.o.own_lt E).2;omega
     .rw[k9.o];simp only[mapE_mapE,afterS,if_true];congr 1;funext q;simp
   .clear j8;go_wp2_with (first
     | ((with_reducible refine ah (.store 60 (.tmp 8) (.tmp 18)) ?_);refine wpList_store_ch info64 z (.tmp 8) (.tmp 18) z H cs _ z z g2.o g3.o.1 d0.o ?_;intro W7 k7 c7;have b9:=O k7;have d4:=O (g5.o.ch a6.o c7);have f3:=O (h7.o.ch c7 (.inr z));have d5:=O (Grow.flat elS_flat f9.o fun c E=>c7.hpc (by have:=c8.o c E;omega));have a0:=(b9.o.cell 0).trans f6.o.1;clear k7 c7 g5 h7 f9 g2)
     | (with_reducible refine l1 56 60 ?_;refine wpList_load_blk g7 g8 info64 z (.tmp 8) z H cs z b9 d0.o.1 ?_)
     | ((with_reducible refine aa 57 (.buildSlice _ _ _) ?_);refine wpList_build1 z (.tmp 56) z g1.o a8 b5 a7 b7 (by decide) (by decide) (.agg cs.toArray) cs z z d0.o.1 ?_;intro Wb kb bb sb;have KB:=O kb;have f0:=O (d4.o.below bb);have a9:=O (f3.o.below bb);have b8:=O (d5.o.below bb);have l3:=O (a9.o.acc (mv':= .slice U Q X) Z.o.1 Z.o.2 (fun c E=> .inl E));have j9:=O (ol_new (mv':= .slice U Q X) a9.o o9.o a6.o m2.o (fun c E=> .inl (c8.o c E)));have l5:=O f0.o.sz;clear kb bb sb d4 f3 d5 b9)
     | (at_builtin;refine wpList_append_at (elX elSt fun c=> (Value.slice U Q X).ownBlock=some c) z (.tmp 55) (.tmp 57) 44 z i0 z0 g1.o a8 b5 a7 b7 (show 0<25 by decide) f8 (w.1.size+2) Wb (.slice ga M g9) acc z l3.o cs (.mk k li co K t x' y' b' e' (A.n:Int) h9 d7 d9) j9.o _ 60 KB.o z (by have:=d3.o;have:=HI.o.2;omega) l5.o ?_;intro gb t9 u1 f7 f2 f5 d6;have l6:=O f7;have j3:=O f2;have e8:=O (And.intro f5 d6);clear f7 f2 f5 d6)
    )
    go_roundg (a2- (i+1));case measure=>omega
    case rel=>
     refine⟨i+1,acc++[.mk k li co K t x' y' b' e' (A.n:Int) h9 d7 d9],ns,{A with n:=n2,mo:=a1},.slice U Q X,by omega,z,congrArg (Value.int .i64) o8.o,O ⟨by have:=d3.o;simp;omega,by have:=d3.o;have:=h6.o;show i+1<=n2;omega⟩,O (f0.o.below2 j3.o),O (Grow.flat elS_flat b8.o fun c E=>e8.o.1 c (b8.o.own_lt E).2 (Z.o.2 c E)),O ⟨l6.o,fun c E e=>?_⟩,O (e7.o.cnt n2 a1),O ⟨HI.o.1,h6.o.2⟩,O ?_⟩
     .have e2:gb=c:=by simpa [Value.ownBlock]using e
      subst e2;rcases e8.o.2 with J|J
      .exact Z.o.2 _ E J
      .have:=(b8.o.own_lt E).2;omega
     .rw[k9.o];simp only[mapE_mapE,afterS,if_neg hk];congr 1;funext q;simp
  .obtain rfl:i=a2:=by omega
   have v9:¬ (i:Int)< (i:Int):=by omega
   have hQ:=j0.o;rw[<-HN,List.drop_length,fSts]at hQ;have hq:R= .ok (acc,A.n,A.mo):=by rw[hQ];simp[mapE]
   go_wp2_with fail;refine V.o _ _ ?_;go_wp2_with fail;rw[hq];exact blk_done HB.o d1.o e7.o HI.o.1 Z.o.1.outX z z
mutual
theorem pst_all {w0:World} {F g h:Nat} {fc:List Value} (hFg:w0.1.size<=F/\w0.1.size<=g):∀ (s:St),s.sm->StCp w0 F g h fc s
 | .mk k l c s t x y body els id sl ot lo,hs=>by
  unfold St.sm at hs
  exact fun D sc w hF hI hw hS=>pst_step k l c s t x y body els id sl ot lo hs.1 hs.2.1 (pblk_step hFg body (psts_all hFg body hs.2.2.1)) (pblk_step hFg els (psts_all hFg els hs.2.2.2)) D sc w hF hI hw hFg hS
theorem psts_all {w0:World} {F g h:Nat} {fc:List Value} (hFg:w0.1.size<=F/\w0.1.size<=g):∀ (l:List St),St.sms l->∀s∈l,StCp w0 F g h fc s
 | [],_,s,hs=>by cases hs
 |y::r,h,s,hs=>by
  unfold St.sms at h
  by_cases e:s=y
  .rw[e]
   exact pst_all hFg y h.1
  .exact psts_all hFg r h.2 s ((List.mem_cons.1 hs).resolve_left e)
end
theorem pblk_all{F h:Nat}{fc:List Value}(j:w0.1.size<=F/\w0.1.size<=g)(l:List St)(w:St.sms l):BlkC w0 F g h fc l:=pblk_step j l (psts_all j l w)
theorem elT_of{ty t:TypeId}(h:(Tryz.prog.info? ty).map (fun i=> (i.zero.map (fun z=>z.cells.size),i.size,decide (i.bytes<=1024)))=some (some n,n,true))(E:Tryz.prog.underlying t=some (.slice ty))(C:0<n)(j:n<=1000):ElT (elV ty n) t:=by obtain⟨i,z,D,A,F,g,w⟩:=info_el h;exact⟨i,z,E,D,A,F,g,C,j,w⟩
theorem elT23:ElT (elV 2 1) 23:=elT_of (by kernel_rfl) (by kernel_rfl) (by decide) (by decide)
theorem elT24:ElT (elV 3 1) 24:=elT_of (by kernel_rfl) (by kernel_rfl) (by decide) (by decide)
theorem elT25:ElT (elV 71 3) 25:=elT_of (by kernel_rfl) (by kernel_rfl) (by decide) (by decide)
theorem elT26:ElT (elV 9 1) 26:=elT_of (by kernel_rfl) (by kernel_rfl) (by decide) (by decide)
theorem info23:(Tryz.prog.info? 23).map (·.size)=some 1:=by kernel_rfl
theorem info24:(Tryz.prog.info? 24).map (·.size)=some 1:=by kernel_rfl
theorem info25:(Tryz.prog.info? 25).map (·.size)=some 1:=by kernel_rfl
theorem Fi.pc{w':World}{F h:Nat}{pc:List Value}{D:PF}(H:Fi w F g h pc D)(j:l2.length=13)(A:Blk w' F 101 (l2++pfT g h D))(E:w'.1[g]? =w.1[g]?)(C:w'.1[h]? =w.1[h]?):Fi w' F g h l2 D:=⟨j,A,H.m.of E,C.trans H.wm,H.fg,H.fh,H.gh⟩
structure KpB (B F g:Nat) (w w':World):Prop where
 os:w'.os=w.os
 tape:w'.tape=w.tape
 output:w'.output=w.output
 size:w.1.size<=w'.1.size
 block:∀c,c<B->c≠F->c≠g->w'.1[c]? =w.1[c]?
section
variable {B F g b:Nat} {w w1 w2:World}
theorem KpB.below(h:KpB B F g w w1)(j:Below B w1 w2):KpB B F g w w2:=⟨j.os.trans h.os,j.tape.trans h.tape,j.output.trans h.output,Nat.le_trans h.size j.size,fun c A D C=> (j.block c A).trans (h.block c A D C)⟩
theorem KpB.ch(h:KpB B F g w w1)(j:Ch F w1 w2):KpB B F g w w2:=⟨j.kp.os.trans h.os,j.kp.tape.trans h.tape,j.kp.output.trans h.output,Nat.le_trans h.size j.kp.size,fun c D A C=> (j.hpc A).trans (h.block c D A C)⟩
theorem KpB.chM(h:KpB B F g w w1)(j:ChM g w1 w2):KpB B F g w w2:=⟨j.os.trans h.os,j.tape.trans h.tape,j.output.trans h.output,by rw[j.size];exact h.size,fun c C D A=> (j.block c A).trans (h.block c C D A)⟩
theorem KpB.refl(B F g:Nat)(w:World):KpB B F g w w:=⟨z,z,z,rl,fun _ _ _ _=>z⟩
end
def dcCs(d:De)(bv:Value):List Value:=[.int .i64 d.kind,.int .i64 d.line,.int .i64 d.col,.string d.name,.int .i64 d.num,bv]
def DPs(B F g h:Nat)(D:PF)(w:World)(R:Except Flw (Pg×List Nm×Int))(e:Ending)(w':World):Prop:=KpB B F g w w'/\match R with
 | .error f=>e= .panicked [flawN f]
 | .ok (P',L',ce')=>e= .returned (.tuple #[])/\∃vs',Fi w' F g h (pcC P' vs') {D with L:=L',ce:=ce'}/\Gs B w' vs' (lsP P')
structure Dqp (B F g h:Nat) (w:World) (b:Nat) (d:De) (bv:Value) (P:Pg) (vs:List Value) (D:PF) (W:World):Prop where
 k:KpB B F g w W
 f:Fi W F g h (pcC P vs) D
 s:Gs B W vs (lsP P)
 d:Blk W b 46 (dcCs d bv)
 lt:F<B/\g<B/\h<B/\B<=b/\b<W.1.size
section
variable {B F g h b c:Nat} {w W W':World} {d:De} {bv:Value} {P:Pg} {vs:List Value} {D D':PF}
theorem Dqp.below(H:Dqp B F g h w b d bv P vs D W)(j:bL W W'):Dqp B F g h w b d bv P vs D W':=⟨H.k.below (j.mono (by have:=H.lt;omega)),H.f.up j,H.s.below j,H.d.below j,⟨H.lt.1,H.lt.2.1,H.lt.2.2.1,H.lt.2.2.2.1,Nat.lt_of_lt_of_le H.lt.2.2.2.2 j.size⟩⟩
theorem Dqp.ch(H:Dqp B F g h w b d bv P vs D W)(j:Ch c W W')(E:B<=c)(A:c≠b)(C:∀k,(vs.getD k nilV).ownBlock≠some c):Dqp B F g h w b d bv P vs D W':=⟨H.k.below (j.below E (Below.refl _ _)),H.f.ch j (by have:=H.lt;omega) (by have:=H.lt;omega) (by have:=H.lt;omega),H.s.ch j (.inr C),j.blk (fun e=>A e.symm) H.d,by rw[j.size];exact H.lt⟩
theorem Dqp.setF(H:Dqp B F g h w b d bv P vs D W)(G:Blk W' F 101 ((pcC P vs++pfT g h D).set (13+j) v))(A:Ch F W W')(E:D'.L=D.L)(C:(pfT g h D).set j v=pfT g h D'):Dqp B F g h w b d bv P vs D' W':=⟨H.k.ch A,H.f.setC G A E C,H.s.ch A (.inl H.lt.1),A.blk (by have:=H.lt;omega) H.d,by rw[A.size];exact H.lt⟩
end
theorem pdec_end{B F h:Nat}{d:De}{bv:Value}{P:Pg}{vs:List Value}{D:PF}{sl:Nat}(N:Hid (Dqp B F g h w j d bv P vs D W))(HX:Hid (Blk W n0 104 [I d.kind,I sl]))(hn:lkN D.L d.name=none)(hk:0<=d.kind)(hi:i<=1000){R:Except Flw (Pg×List Nm×Int)}(E:D.n=F0.n/\D.loc=F0.loc/\D.mo=F0.mo)
  (Q:Hid (R=if 64<=i then .error ((d.line,d.col),134) else .ok (P,D.L++[Nm.mk d.name d.kind.toNat sl],D.ce)))(hU:l2.length=237:=by rfl):
  Code.wp Tryz.prog (dropS 5 (Tryz.f37.body.getD .skip)) (bodyPost Tryz.prog Tryz.f37 (DPs B F g h F0 w R)) ⟨(Pt F::I i::v0::v1::v2::Pt j::v3::v4::Pt F::Pt n0::l2).toArray,[]⟩ W:=by
 revert l2;apply aN;iterate 237 intro _
 change Code.wp _ _ _ _ _;obtain⟨d4,a6,b5⟩:=under104;have b4:Tryz.prog.follows .mixedOrders=true:=by kernel_rfl
 have HN:=O hn;have HD:=O E;have a7:=O hk;clear hn E hk;have q1:W.cell? ⟨j,1,none⟩=some (.int .i64 d.line):=N.o.d.cell 1;have q2:W.cell? ⟨j,2,none⟩=some (.int .i64 d.col):=N.o.d.cell 2;have a4:=pbound_any (i:Int) 0 63 (d.line,d.col) W;conv in (dropS _ _)=>whnf
 refine wk fun KK a1=>?_;go_wp2_with fail;refine a4.mono ?_;clear a4 q1 q2;rintro e W2 ⟨V,M⟩;have S:=O (N.below V);have a5:=O (HX.below V);clear N HX V;by_cases a0:64<=i
 .rw[if_pos (by omega)]at M;have C:=Q.o;rw[if_pos a0]at C;rw[C,M];exact⟨z,S.k,z⟩
 rw[if_neg (by omega)]at M;subst M;have C:=Q.o;rw[if_neg a0]at C;have a8:=O C;clear Q C;go_wp2;apply a1;clear a1 KK;obtain⟨J,Z⟩:=eX (W2.drew);have A:Hid (Dqp B F g h w j d bv P vs D J/\Blk J n0 104 [I d.kind,I sl]):=O (by rw[<-Z];exact⟨S.below (Below.refl _ _).drew,a5.drew⟩);clear S a5;go_wp2;apply wp_region_x [7] (fun W=>Dqp B F g h w j d bv P vs D W/\Blk W n0 104 [I d.kind,I sl]) b4;rw[Z];clear Z;refine ai 0 ?_;refine af _ 3 (fun Y U=>U.1.f.c13) ?_;refine nm ?_;refine ag 4 ?_;refine tf (fun Y=>Y.cell? ⟨j,3,none⟩=some (.string d.name)) 5 (some 245) A (fun Y U=>U.1.d.cell 3) ?_;refine tl 6 246 A 104 9 n0 0 [I d.kind,I sl] d4 (fun W hS=>hS.2.whole) a6 b5 info104 ?_;refine nm ?_
 refine oD 7 fun a9 hK=>?_;obtain⟨G,a3,a2,K⟩:=put_nm A.1.f.m ⟨d.name,d.kind.toNat,sl⟩ HN;have b6:(Instr.mapUpdate 97 (.map (some g)) (.string d.name) (.agg #[I d.kind,I sl])).run Tryz.prog J= .ok () G:=by have H:=a3;simp only[Nm.ev,Int.toNat_of_nonneg a7.o]at H;exact H
 have X:Hid (KpB B F g w G/\Fi G F g h (pcC P vs) {D with L:=D.L++[Nm.mk d.name d.kind.toNat sl]}/\Gs B G vs (lsP P)):=O ⟨A.1.k.chM K,A.1.f.map K a2,A.1.s.chM K A.1.lt.2.1⟩;clear a3 a2 K;go_simp;apply hK _ _ nofun;clear hK a9 b6 A;try simp only[Act.put]
 refine dn ?_;go_wp2;go_end0;rw[a8.o];have E:=HD.o;refine⟨X.1,z,vs,?_,X.2.2⟩;have H:=X.2.1;rw[E.1,E.2.1,E.2.2]at H;exact H
end Go.Proofs.YtgppcdfgdaggjaaGreatDoor
