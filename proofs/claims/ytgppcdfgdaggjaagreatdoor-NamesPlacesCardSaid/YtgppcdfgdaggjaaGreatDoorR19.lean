/- Texts laid together. No condition but what each law says. -/
import Derived.Test.YtgppcdfgdaggjaaGreatDoorR18
import Derived.Defers
import Derived.Recover
set_option maxRecDepth 100000
set_option maxHeartbeats 16000000
namespace Go.Proofs.YtgppcdfgdaggjaaGreatDoor
open Go.RowKit Go.Maps
variable {W w:World}{b d g j n n0 n5:Nat}{u v v0 v1 v2 v3:Value}{p q r:Int}{A:Act}{a:Option Addr}{S:Src}
theorem ta_nil(w:World):(Instr.typeAssert .nilIface 20 160 true).run Tryz.prog w= .ok (.tuple #[.agg #[I 0,I 0],.bool false]) w:=by kernel_rfl
theorem ta_flaw(x y:Int)(w:World):(Instr.typeAssert (.iface 160 (.agg #[I x,I y])) 20 160 true).run Tryz.prog w= .ok (.tuple #[.agg #[I x,I y],.bool true]) w:=by kernel_rfl
theorem catch_idle(p q r:Addr)(w:World):
  CallsD Tryz.prog 75 #[.pointer (some p),.pointer (some q),.pointer (some r)] .returning w fun e D w'=>e= .returned (.tuple #[])/\D= .returning/\bL w w':=by
 refine callsD_of_wpS Tryz.func75 z fun C cs j=>?_;simp only[Tryz.ntmps75,List.size_toArray,List.length_cons,List.length_nil,Nat.reduceAdd,Nat.reduceSub,Array.replicate_succ,Array.replicate_zero,List.push_toArray,List.append_toArray,List.nil_append,List.cons_append];apply wpS_seq;apply wpS_region;have g:Blk (w.alloc (.cells #[.int .i64 0,.int .i64 0] 160)) w.1.size 160 [.int .i64 0,.int .i64 0]:=World.alloc_heap_new _ _;have E:bL w (w.alloc (.cells #[I 0,I 0] 160)):=(Below.refl _ w).alloc rl _;have c0:=g.cell 0;have A:=g.frozen 0;simp[wpOpsS,go_sem,recoverD,j,Exit.thenS,ta_nil,c0,A];apply wpS_seq;apply wpS_region;simp[wpOpsS,go_sem,Exit.thenS];apply wpS_cond (t:=false) (by simp[Act.eval])
 simp only[Bool.false_eq_true,if_false];refine wpS_of_wp (wp_skip ?_);cases C;simp_all [bodyPostS,results,Tryz.f75]
structure Caught (w w':World) (z2 z3 z4:Nat) (x y:Int):Prop where
 l:Blk w' z2 40 [.slice none 0 0]
 p:Blk w' z3 32 [.int .i64 x,.int .i64 y]
 e:Blk w' z4 33 [.int .i64 120]
 os:w'.os=w.os
 tape:w'.tape=w.tape
 output:w'.output=w.output
 size:w.1.size<=w'.1.size
 block:∀c,c<w.1.size->c≠z2->c≠z3->c≠z4->w'.1[c]? =w.1[c]?
theorem Caught.mk'(x y:Int)(A:bL w W)(D:Blk W g 40 [v0])(E:Blk W j 32 [v1,v2])(F:Blk W n0 33 [v3]):
  Caught w ((((W.setCell ⟨g,0,none⟩ (.slice none 0 0)).setCell ⟨j,0,none⟩ (I x)).setCell ⟨j,1,none⟩ (I y)).setCell ⟨n0,0,none⟩ (I 120)) g j n0 x y:=by
 have G:g≠j:=by rintro rfl;have:=Option.some.inj (D.symm.trans E);simp at this
 have H:g≠n0:=by rintro rfl;have:=Option.some.inj (D.symm.trans F);simp at this
 have C:j≠n0:=by rintro rfl;have:=Option.some.inj (E.symm.trans F);simp at this
 refine⟨(((D.set1 0 (.slice none 0 0)).other G 0 _).other G 1 _).other H 0 _,(((E.other (Ne.symm G) 0 (.slice none 0 0)).set1 0 (I x)).set1 1 (I y)).other C 0 _,(((F.other (Ne.symm H) 0 (.slice none 0 0)).other (Ne.symm C) 0 (I x)).other (Ne.symm C) 1 (I y)).set1 0 (I 120),A.os,A.tape,A.output,by simpa [World.setCell]using A.size,fun c M K J N=>?_⟩;rw[Below.heap_setCell _ ⟨n0,0,none⟩ _ c N,Below.heap_setCell _ ⟨j,1,none⟩ _ c J,Below.heap_setCell _ ⟨j,0,none⟩ _ c J,Below.heap_setCell _ ⟨g,0,none⟩ _ c K];exact A.block c M
theorem Caught.drew{w':World}{x y:Int}(h:Caught w w' j g n0 x y):Caught w w'.drew j g n0 x y:=⟨h.l,h.p,h.e,h.os,h.tape,h.output,h.size,h.block⟩
theorem catch_panicking(j E D:Nat)(x y:Int)(G:List PanicEntry)(w:World)(J:Blk w j 40 [v0])(Q:Blk w E 32 [I p,I q])(R:Blk w D 33 [I r]):
  CallsD Tryz.prog 75 #[Pt j,Pt E,Pt D] (.panicking ({v:= .iface 160 (.agg #[I x,I y]),recovered:=false}::G)) w
   fun e V w'=>e= .returned (.tuple #[])/\V= .panicking ({v:= .iface 160 (.agg #[I x,I y]),recovered:=true}::G)/\Caught w w' j E D x y:=by
 refine callsD_of_wpS Tryz.func75 z fun Z cs N=>?_;simp only[Tryz.ntmps75,List.size_toArray,List.length_cons,List.length_nil,Nat.reduceAdd,Nat.reduceSub,Array.replicate_succ,Array.replicate_zero,List.push_toArray,List.append_toArray,List.nil_append,List.cons_append];apply wpS_seq;apply wpS_region;have U:bL w (w.alloc (.cells #[I x,I y] 160)):=(Below.refl _ w).alloc rl _;have F:Blk (w.alloc (.cells #[.int .i64 0,.int .i64 0] 160)) w.1.size 160 [.int .i64 0,.int .i64 0]:=World.alloc_heap_new _ _;have c0:=F.cell 0;have H:=F.frozen 0;simp[wpOpsS,go_sem,recoverD,N,Exit.thenS,ta_flaw,c0,H];apply wpS_seq;apply wpS_region;simp[wpOpsS,go_sem,Exit.thenS];apply wpS_cond (t:=true) (by simp[Act.eval])
 simp only[if_true];have K:Blk (w.alloc (.cells #[.int .i64 x,.int .i64 y] 160)) w.1.size 160 [.int .i64 x,.int .i64 y]:=World.alloc_heap_new _ _;have C:=J.alloc (.cells #[I x,I y] 160);have g:=Q.alloc (.cells #[I x,I y] 160);have A:=R.alloc (.cells #[I x,I y] 160);have a5:=J.lt;have a7:w.1.size≠j:=by omega
 have S:=O (Caught.mk' x y U C g A).drew;clear c0 H F;generalize w.alloc (.cells #[I x,I y] 160)=W at *;have c0:=K.cell;have a2:=C.cell 0;have b2:=C.frozen 0;have a3:=g.cell;have b3:=g.frozen;have X:=A.cell 0;have b4:=A.frozen 0;have a8:j≠E:=by rintro rfl;have:=Option.some.inj (C.symm.trans g);simp at this
 have a1:j≠D:=by rintro rfl;have:=Option.some.inj (C.symm.trans A);simp at this
 have a6:E≠D:=by rintro rfl;have:=Option.some.inj (g.symm.trans A);simp at this
 apply wpS_of_wp;go_region;have M:=S.o;simp[bodyPostS,results,Tryz.f75];exact M
structure Bx (W:World) (z2 z3 z4:Nat) (v:Value) (p q r:Int):Prop where
 l:Blk W z2 40 [v]
 p:Blk W z3 32 [.int .i64 p,.int .i64 q]
 e:Blk W z4 33 [.int .i64 r]
theorem Bx.kp(h:Bx W j g n0 v p q r)(A:Kp W w b b)(D:j≠b)(C:g≠b)(E:n0≠b):Bx w j g n0 v p q r:=⟨h.l.kp A D D,h.p.kp A C C,h.e.kp A E E⟩
theorem Bx.below{B:Nat}(h:Bx W j g n0 v p q r)(A:Below B W w)(D:j<B)(C:g<B)(E:n0<B):Bx w j g n0 v p q r:=⟨h.l.of (A.block _ D),h.p.of (A.block _ C),h.e.of (A.block _ E)⟩
theorem prog_gone{R:Ending->World->Prop}{x y:Int}(E:Bx W j g n0 v p q r)
  (D:Kp w W b b)(Z:w.1.size<=j)(Y:w.1.size<=g)(a0:w.1.size<=n0)
  (K:A.tmps.getD 2 undef=Pt j)(Q:A.tmps.getD 3 undef=Pt g)(V:A.tmps.getD 4 undef=Pt n0)
  (hd:A.defers=[{target:= .fn (.func 75) #[Pt j,Pt g,Pt n0],args:= #[]}])
  (M:∀G,Kp w G b b->R (.returned (.tuple #[.slice none 0 0,.agg #[I x,I y],I 120])) G):
  bodyPostD Tryz.prog Tryz.f32 R (.panic [{v:= .iface 160 (.agg #[I x,I y]),recovered:=false}]) A W:=by
 show Leaves Tryz.prog Tryz.f32 A.tmps R A.defers (.panicking [{v:= .iface 160 (.agg #[I x,I y]),recovered:=false}]) W;rw[hd];apply leaves_cons (f:=75) (args:= #[Pt j,Pt g,Pt n0]) (by simp) (by simp[go_sem]);apply (catch_panicking j g n0 x y [] W E.l E.p E.e).mono;rintro e u' w' ⟨rfl,rfl,C⟩;have X:A.tmps[2]?.getD undef=Pt j:=by rw[<-K];simp
 have N:A.tmps[3]?.getD undef=Pt g:=by rw[<-Q];simp
 have S:A.tmps[4]?.getD undef=Pt n0:=by rw[<-V];simp
 have J:Kp w w' b b:=⟨C.os.trans D.os,C.tape.trans D.tape,C.output.trans D.output,Nat.le_trans D.size C.size,fun c F H _=> (C.block c (Nat.lt_of_lt_of_le F D.size) (by omega) (by omega) (by omega)).trans (D.block c F H H)⟩;have c0:=C.l.cell 0;have c1:=C.p.cell 0;have c2:=C.p.cell 1;have c3:=C.e.cell 0;simp only[List.getElem?_cons_zero,List.getElem?_cons_succ]at c0 c1 c2 c3;have U:=M w' J;simp[Leaves,settle,results,Tryz.f32,go_sem,X,N,S,c0,c1,c2,c3];exact U
theorem prog_done{R:Ending->World->Prop}{cap:Nat}(w:Bx W j g n0 (.slice a n cap) p q r)
  (F:A.tmps.getD 2 undef=Pt j)(G:A.tmps.getD 3 undef=Pt g)(M:A.tmps.getD 4 undef=Pt n0)
  (hd:A.defers=[{target:= .fn (.func 75) #[Pt j,Pt g,Pt n0],args:= #[]}])
  (J:∀D,bL W D->R (.returned (.tuple #[.slice a n cap,.agg #[I p,I q],I r])) D):bodyPostD Tryz.prog Tryz.f32 R .ret A W:=by
 show Leaves Tryz.prog Tryz.f32 A.tmps R A.defers .returning W;rw[hd];apply leaves_cons (f:=75) (args:= #[Pt j,Pt g,Pt n0]) (by simp) (by simp[go_sem]);apply (catch_idle ⟨j,0,none⟩ ⟨g,0,none⟩ ⟨n0,0,none⟩ W).mono;rintro e S w' ⟨rfl,rfl,E⟩;have N:A.tmps[2]?.getD undef=Pt j:=by rw[<-F];simp
 have Q:A.tmps[3]?.getD undef=Pt g:=by rw[<-G];simp
 have H:A.tmps[4]?.getD undef=Pt n0:=by rw[<-M];simp
 have C:=w.below E w.l.lt w.p.lt w.e.lt;have c0:=C.l.cell 0;have c1:=C.p.cell 0;have c2:=C.p.cell 1;have c3:=C.e.cell 0;simp only[List.getElem?_cons_zero,List.getElem?_cons_succ]at c0 c1 c2 c3;have K:=J w' E;simp[Leaves,settle,results,Tryz.f32,go_sem,N,Q,H,c0,c1,c2,c3];exact K
theorem Bx.sets(h:Bx W g j n0 v p q r)(A:g≠j)(C:g≠n0)(w:j≠n0)(v':Value)(x y e:Int):
  Bx ((((W.setCell ⟨g,0,none⟩ v').setCell ⟨j,0,none⟩ (I x)).setCell ⟨j,1,none⟩ (I y)).setCell ⟨n0,0,none⟩ (I e)) g j n0 v' x y e:=
 ⟨(((h.l.set1 0 v').other A 0 _).other A 1 _).other C 0 _,(((h.p.other (Ne.symm A) 0 v').set1 0 (I x)).set1 1 (I y)).other w 0 _,(((h.e.other (Ne.symm C) 0 v').other (Ne.symm w) 0 (I x)).other (Ne.symm w) 1 (I y)).set1 0 (I e)⟩
theorem wp_alt{P:Program}{c:Code}{g:Exit->Act->World->Prop}{P0:Exit->Act->World->Prop}{a:Act}(h:c.wp P (Exit.then (g .normal) P0) a w)(j:∀e a w,e≠ .normal->P0 e a w->g e a w):c.wp P g a w:=by
 refine wp_mono h (fun e a w h=>?_);cases e;case normal=>exact h
 all_goals exact j _ _ _ (by simp) h
def GoneQ(w:World)(b z2 z3 z4:Nat)(S:Src)(R:Except Nat (List De×Nat))(e:Exit)(a:Act)(W:World):Prop:=
 ∃ (j:Nat) (v:Value),e= .panic [flawM S j]/\R= .error j/\Bx W z2 z3 z4 v 0 0 0/\Kp w W b b/\a.tmps.getD 2 undef= .pointer (some ⟨z2,0,none⟩)/\a.tmps.getD 3 undef= .pointer (some ⟨z3,0,none⟩)/\a.tmps.getD 4 undef= .pointer (some ⟨z4,0,none⟩)/\
  a.defers=[{target:= .fn (.func 75) #[.pointer (some ⟨z2,0,none⟩),.pointer (some ⟨z3,0,none⟩),.pointer (some ⟨z4,0,none⟩)],args:= #[]}]
theorem GoneQ.put{R:Except Nat (List De×Nat)}{e:Exit}{a:Act}(hd:5<=d)(h:GoneQ w b g n0 n5 S R e (a.put (some d) u) W):GoneQ w b g n0 n5 S R e a W:=by
 obtain⟨j,v,J,K,D,H,E,C,F,G⟩:=h;have A:∀k,k<5->(a.put (some d) u).tmps.getD k undef=a.tmps.getD k undef:=fun k M=>by simp only[Act.put,Array.getD_eq_getD_getElem?,Array.getElem?_setIfInBounds];rw[if_neg (by omega)]
 exact⟨j,v,J,K,D,H,(A 2 (by decide)).symm.trans E,(A 3 (by decide)).symm.trans C,(A 4 (by decide)).symm.trans F,G⟩
def PP(w:World)(b:Nat)(S:Src)(R:Except Nat (List De×Nat))(e:Ending)(w':World):Prop:=Kp w w' b b/\match R with
 | .ok (l,_)=>∃ (a:Option Addr) (cap:Nat),e= .returned (.tuple #[.slice a l.length cap,.agg #[.int .i64 0,.int .i64 0],.int .i64 0])/\Roomy l.length cap/\DesS (w.1.size<=·) w' a l
 | .error j=>e= .returned (.tuple #[.slice none 0 0,.agg #[.int .i64 (nextW S.T S.en j).line,.int .i64 (nextW S.T S.en j).col],.int .i64 120])
theorem program_any(a7:b≠0)(hN:∀i,0<=(S.T.getD i default).num/\(S.T.getD i default).num<=2147483647)(h:Rw w b S 0)(hO:Ops w)(f8:Kds w b S){R:Except Nat (List De×Nat)}(C:pDs S.T (S.T.length+1) [] 0=some R):
  Calls Tryz.prog 32 #[Pt b] w (PP w b S R):=by
 have h4:∀ (fn:Fn) (first cap:Array Value) (w:World),(Instr.makeFunc fn first cap).run Tryz.prog w= .ok (.func fn first cap) w:=fun _ _ _ _=>z;have X:=O C;have HH:=O h;have i1:=h.lt;clear C;have b4:Bx (((w.alloc (.cells #[.slice none 0 0] 40)).alloc (.cells #[I 0,I 0] 32)).alloc (.cells #[I 0] 33)) w.1.size (w.1.size+1) (w.1.size+2) (.slice none 0 0) 0 0 0:=by
  refine⟨((Blk.new w 40 [.slice none 0 0]).alloc _).alloc _,?_,?_⟩
  .have:=(Blk.new (w.alloc (.cells #[.slice none 0 0] 40)) 32 [I 0,I 0]).alloc (.cells #[I 0] 33);simpa using this
  .have:=Blk.new ((w.alloc (.cells #[.slice none 0 0] 40)).alloc (.cells #[I 0,I 0] 32)) 33 [I 0];simpa using this
 have d0:=((h.alloc (.cells #[.slice none 0 0] 40)).alloc (.cells #[I 0,I 0] 32)).alloc (.cells #[I 0] 33);have d1:Kp w (((w.alloc (.cells #[.slice none 0 0] 40)).alloc (.cells #[.int .i64 0,.int .i64 0] 32)).alloc (.cells #[.int .i64 0] 33)) b b:=(((Kp.refl w b b).alloc _).alloc _).alloc _;have d5:(((w.alloc (.cells #[.slice none 0 0] 40)).alloc (.cells #[I 0,I 0] 32)).alloc (.cells #[I 0] 33)).1.size=w.1.size+3:=by simp
 have V:=O (And.intro d0 d1);have E:=O b4;clear h b4 d0 d1;obtain⟨i0,z0,e4,f2,g2,f3,g4⟩:=info_el infoDe;go_enter_defers Tryz.func32,Tryz.ntmps32;go_wp2_with fail;generalize ((w.alloc (.cells #[.slice none 0 0] 40)).alloc (.cells #[I 0,I 0] 32)).alloc (.cells #[I 0] 33)=W0 at *;go_loopg [] (S.T.length+1) (fun x wr=>∃ (g:Nat) (acc:List De) (i:Nat) (v:Value),x=g/\acc.length<=i/\Hid (pDs S.T g acc i=some R)/\Hid (Bx wr w.1.size (w.1.size+1) (w.1.size+2) v 0 0 0)/\Hid (Grow elDe (w.1.size+3) wr v acc)/\Hid (Rw wr b S i/\Kp w wr b b)/\w.1.size+3<=wr.1.size);case atStart=>exact⟨_,[],0,_,z,by simp,X,E,O (Grow.nil _ _ _),V,by omega⟩
 case round=>
  clear X E V d5;obtain⟨g0,acc,i,v,e8,g8,X,E,M,V,a5⟩:=hrel;obtain⟨g,rfl⟩:∃g',g0=g'+1:=by
   cases g0 with
   |zero=>exact absurd X.o (by unfold pDs;simp)
   |succ g=>exact⟨g,z⟩
  subst e8;have C:=X.o;rw[pDs]at C;obtain⟨a,cap,rfl,d3⟩:=M.o.form;obtain⟨h1,a2⟩:=V.o;have c0:=h1.c0;have c1:=h1.c1;have e7:=h1.le;have i3:=h1.mx;by_cases hi:i<S.T.length
  .have e5:(i:Int)< (S.T.length:Int):=by omega
   rw[if_pos hi]at C;go_wp2_with fail;go_quiet (fail);rename_i nq;have h2:=h1.drewN nq;have a6:=a2.drewN nq;have a0:=M.o.drewN nq;have A:Bx (wr.drewN nq) w.1.size (w.1.size+1) (w.1.size+2) (.slice a acc.length cap) 0 0 0:=⟨E.o.l.drewN nq,E.o.p.drewN nq,E.o.e.drewN nq⟩;have g5:w.1.size+3<=(wr.drewN nq).1.size:=a5;clear c0 c1 h1 a2 M E V a5;generalize wr.drewN nq=F at *;go_wp2_with fail;refine wp_alt (P0:=GoneQ w b w.1.size (w.1.size+1) (w.1.size+2) S R) ?_ ?_;rotate_left
   .rintro e a' w'-⟨j,v',rfl,rfl,hB,D,t2,t3,t4,td⟩;show bodyPostD Tryz.prog Tryz.f32 (PP w b S (.error j)) (.panic [flawM S j]) a' w';exact prog_gone hB D rl (by omega) (by omega) t2 t3 t4 td (fun W' hk=>⟨hk,z⟩)
   have b5:Blk F.drew w.1.size 40 [.slice a acc.length cap]:=A.l;refine wp_region_x [5] (fun W=>Blk W w.1.size 40 [.slice a acc.length cap]) z ?_;refine wpX_take 0 (v:=?v0) z (by kernel_rfl) (by kernel_rfl) (by kernel_rfl) (by kernel_rfl) (fun _ _ _ h=>GoneQ.put (by decide) h) b5 (Or.inl ⟨by kernel_rfl,?h0⟩) ?_;case h0=> (intro W1 c9;have e3:=c9.cell 0;go_simp;with_reducible rfl)
   refine wpX_take 1 (v:=?v1) z (by kernel_rfl) (by kernel_rfl) (by kernel_rfl) (by kernel_rfl) (fun _ _ _ h=>GoneQ.put (by decide) h) b5 (Or.inl ⟨by kernel_rfl,?h1⟩) ?_;case h1=> (intro W1 c9;go_simp;with_reducible rfl)
   refine tn 2 fun J D=>?_;go_simp;have h3:Rw F.drew b S i:=h2.drewN 1;have a1:Kp w F.drew b b:=a6.drew;have b8:=hO.kp a1 a7;have b9:=f8.kp a1 rl;have a9:w.1.size≠b:=by omega
   have b7:w.1.size+1≠b:=by omega
   have c8:w.1.size+2≠b:=by omega
   have b6:Bx F.drew w.1.size (w.1.size+1) (w.1.size+2) (.slice a acc.length cap) 0 0 0:=⟨A.l,A.p,A.e⟩;rcases hx:pD S.T i with _| (j|⟨d,j⟩)
   .rw[hx]at C;cases C
   .rw[hx]at C;cases C;refine(decl_any a7 hN h3 b8 b9 hx).mono ?_;rintro e U ⟨H,rfl⟩;exact⟨j,_,z,z,b6.kp H a9 b7 c8,a1.trans H,z,z,z,z⟩
   .rw[hx,andT_ok]at C;refine(decl_any a7 hN h3 b8 b9 hx).mono ?_;rintro e U ⟨H,⟨cs,rfl,hL⟩,h5⟩;have a3:=b6.kp H a9 b7 c8;refine D _ _ (fun _=>a3.l) ?_;clear D J;have g9:=pD_adv S.T e7 hx;have hl:=hL.cells.1;have d2:F.drew.1.size=F.1.size:=z;have d7:=H.size;rw[d2]at d7;have g3:Grow elDe (w.1.size+3) U (.slice a acc.length cap) acc:=(a0.drewN 1).kp H (by omega) (by omega);have f0:(Value.slice a acc.length cap).ownBlock=none∨∃g,(Value.slice a acc.length cap).ownBlock=some g/\g<F.1.size:=by
     obtain⟨cells,-,N,-⟩:=a0.own;rcases ho:(Value.slice a acc.length cap).ownBlock with _|g
     .exact .inl z
     .exact .inr ⟨g,z,(N.lt g ho).2⟩
    have HL:=O (show elDe.L (fun c=>w.1.size+3<=c/\(Value.slice a acc.length cap).ownBlock≠some c) U cs d from DeL.weak (fun c Z=>by
     have e9:F.drew.1.size<=c:=Z;rw[d2]at e9;refine⟨by omega,fun e=>?_⟩;rcases f0 with N|⟨g,N,h7⟩
     .rw[N]at e;cases e
     .rw[N]at e;cases e;omega) hL)
    have M:=O g3;have i2:=fold_cells #[I 0,I 0,I 0,.string ⟨#[]⟩,I 0,.slice none 0 0] cs (by rw[hl];rfl);refine tn 3 fun J D=>?_;go_simp;refine D _ _ (fun _=>a3.l.alloc _) ?_;clear D J;have e2:Tryz.prog.underlying 40=some (.slice 46):=by kernel_rfl
    have d8:acc.length<=10000000:=by omega
    have d9:w.1.size+3<=U.1.size:=by omega
    refine tn 4 fun J D=>?_;refine step_append_grow elDe z (.tmp 18) (.tmp 21) 40 z i0 z0 _ e2 e4 f2 g2 z f3 (by decide) g4 (w.1.size+3) U _ (.slice a acc.length cap) acc z M cs d HL z z d8 d9 ?_;intro G K Y f4 f6 h8;have a4:Below (w.1.size+3) U Y:=f6.o;have Q:=a3.below a4 (by omega) (by omega) (by omega);refine D _ _ (fun _=>Q.l) ?_;clear D J;refine tn 5 fun J D=>?_;have e3:=Q.l.cell 0;have g7:=Q.l.frozen 0;go_simp;refine D _ _ (fun h=>absurd h (by decide)) ?_;clear D J;refine dn ?_;go_simp;have a8:=(a1.trans H).to a4 (by omega);have N:=HH.o.fin h5 a8 (a4.block b (by omega))
    have f5:Bx (Y.setCell ⟨w.1.size,0,none⟩ (.slice (some ⟨G,0,none⟩) (acc.length+1) K)) w.1.size (w.1.size+1) (w.1.size+2) (.slice (some ⟨G,0,none⟩) (acc.length+1) K) 0 0 0:=⟨Q.l.set1 0 _,Q.p.other (by omega) 0 _,Q.e.other (by omega) 0 _⟩;have d6:Grow elDe (w.1.size+3) (Y.setCell ⟨w.1.size,0,none⟩ (.slice (some ⟨G,0,none⟩) (acc.length+1) K)) (.slice (some ⟨G,0,none⟩) (acc.length+1) K) (acc++[d]):=f4.o.keep (fun c Z d4=>Below.heap_setCell _ ⟨w.1.size,0,none⟩ _ c (show c≠w.1.size by omega)) (by simp[World.setCell]);have g1:=a8.setNew (r:=w.1.size) rl 0 (.slice (some ⟨G,0,none⟩) (acc.length+1) K);have h7:=rw_new HH.o a8 N rl a9 0 (.slice (some ⟨G,0,none⟩) (acc.length+1) K);have f1:=O C
    have f9:(Y.setCell ⟨w.1.size,0,none⟩ (.slice (some ⟨G,0,none⟩) (acc.length+1) K)).1.size=Y.1.size:=by simp[World.setCell]
    rename_i ha;refine ha _ _ ?_;go_wp2_with fail;go_roundg g;case measure=>omega
    case rel=>exact⟨g,acc++[d],j,_,z,by simp;omega,f1,O f5,O d6,O ⟨h7,g1⟩,by rw[f9];omega⟩
  .have e5:¬ (i:Int)< (S.T.length:Int):=by omega
   rw[if_neg hi]at C;cases C;go_wp2_with fail;go_quiet (fail);rename_i nq;have h2:=h1.drewN nq;have a6:=a2.drewN nq;have a0:=M.o.drewN nq;have A:Bx (wr.drewN nq) w.1.size (w.1.size+1) (w.1.size+2) (.slice a acc.length cap) 0 0 0:=⟨E.o.l.drewN nq,E.o.p.drewN nq,E.o.e.drewN nq⟩;clear c0 c1 h1 a2 M E V a5;generalize wr.drewN nq=F at *;have g6:=A.l.cell 0;have h9:=A.l.frozen 0;have p0:=A.p.cell 0;have p1:=A.p.cell 1;have p2:=A.p.frozen 0;have p3:=A.p.frozen 1;have e0:=A.e.cell 0;have e1:=A.e.frozen 0;go_wp2_with fail
   have f7:=(((a6.setNew (r:=w.1.size) rl 0 (.slice a acc.length cap)).setNew (r:=w.1.size+1) (by omega) 0 (I 0)).setNew (r:=w.1.size+1) (by omega) 1 (I 0)).setNew (r:=w.1.size+2) (by omega) 0 (I 0)
   have e6:Grow elDe (w.1.size+3) ((((F.setCell ⟨w.1.size,0,none⟩ (.slice a acc.length cap)).setCell ⟨w.1.size+1,0,none⟩ (.int .i64 0)).setCell ⟨w.1.size+1,1,none⟩ (.int .i64 0)).setCell ⟨w.1.size+2,0,none⟩ (.int .i64 0)) (.slice a acc.length cap) acc:=a0.keep (fun c Z d4=>by rw[Below.heap_setCell _ ⟨w.1.size+2,0,none⟩ _ c (show c≠w.1.size+2 by omega),Below.heap_setCell _ ⟨w.1.size+1,1,none⟩ _ c (show c≠w.1.size+1 by omega),Below.heap_setCell _ ⟨w.1.size+1,0,none⟩ _ c (show c≠w.1.size+1 by omega),Below.heap_setCell _ ⟨w.1.size,0,none⟩ _ c (show c≠w.1.size by omega)]) (by simp[World.setCell])
   refine prog_done (A.sets (by omega) (by omega) (by omega) _ 0 0 0) z z z z (fun W' hb=>⟨f7.trans (kp_same hb),a,cap,z,d3,?_⟩);have hD:=(e6.below hb).dess;exact hD.weak (fun c Z=>by have:w.1.size+3<=c:=Z;omega)
end Go.Proofs.YtgppcdfgdaggjaaGreatDoor
