/- Texts laid together. No condition but what each law says. -/
import Derived.Test.YtgppcdfgdaggjaaGreatDoorR49
import Derived.Test.YtgppcdfgdaggjaaGreatDoorR29
import Derived.Test.YtgppcdfgdaggjaaGreatDoorR26
import Derived.Test.YtgppcdfgdaggjaaGreatDoorR25
set_option maxRecDepth 100000
set_option maxHeartbeats 8000000
namespace Go.Proofs.YtgppcdfgdaggjaaGreatDoor
open Go.RowKit Go.Maps
variable {V W w:World}{b c g j m n:Nat}{v v0 v1 v2 v3:Value}{A:Act}{s t:ByteArray}{p0:Int}{a a0:Option Addr}{l2:List Value}
theorem ptrE:PtrKey Tryz.prog 163 58:=⟨by kernel_rfl,⟨6,by kernel_rfl⟩⟩
theorem ptrS:PtrKey Tryz.prog 153 60:=⟨by kernel_rfl,⟨24,by kernel_rfl⟩⟩
theorem map230:Tryz.prog.underlying 230=some (.map 163 233):=by kernel_rfl
theorem map229:Tryz.prog.underlying 229=some (.map 153 233):=by kernel_rfl
theorem zero233(w:World):(zeroValue 233).run Tryz.prog w= .ok (.agg #[]) w:=by kernel_rfl
def KeyE(w:World)(l:List MapEntry)(n:Nat):Prop:=∀x∈l,∃ (b o:Nat) (cs:List Value) (y:Ex),x.key= .pointer (some ⟨b,o,none⟩)/\w.rangeF b o cs/\ExL (fun _=>True) w cs y/\n<SizeOf.sizeOf y
def KeyS(w:World)(l:List MapEntry)(n:Nat):Prop:=∀x∈l,∃ (b o:Nat) (cs:List Value) (y:St),x.key= .pointer (some ⟨b,o,none⟩)/\w.rangeF b o cs/\StL (fun _=>True) w cs y/\n<SizeOf.sizeOf y
theorem rangeF_pt{o:Nat}{cs:List Value}(h:w.rangeF b o cs)(hl:0<cs.length):PtF w ⟨b,o,none⟩:=⟨_,h 0 _ (List.getElem?_eq_getElem hl)⟩
section
variable {w w':World} {l:List MapEntry} {n m b o:Nat} {cs:List Value}
theorem KeyE.nil:KeyE w [] n:=fun _ h=>by cases h
theorem KeyS.nil:KeyS w [] n:=fun _ h=>by cases h
theorem KeyE.keys(h:KeyE w l n):Keys1 w l:=fun x hx=>by obtain⟨b,o,cs,y,h1,h2,h3,-⟩:=h x hx;exact⟨_,h1,rangeF_pt h2 (by rw[h3.cells.1];decide)⟩
theorem KeyS.keys(h:KeyS w l n):Keys1 w l:=fun x hx=>by obtain⟨b,o,cs,y,h1,h2,h3,-⟩:=h x hx;exact⟨_,h1,rangeF_pt h2 (by rw[h3.cells.1];decide)⟩
theorem KeyE.none{x:Ex}(h:KeyE w l n)(hc:w.rangeF b o cs)(hx:ExL (fun _=>True) w cs x)(hs:SizeOf.sizeOf x<=n):∀e∈l,e.key≠ .pointer (some ⟨b,o,Option.none⟩):=fun e he hk=>by obtain⟨b2,o2,cs2,y,h1,h2,h3,h4⟩:=h e he;rw[hk]at h1;cases h1;have e2:=cells_det hx.cells.1 h3.cells.1 hc h2;subst e2;have:=ExL.det hx h3;subst this;omega
theorem KeyS.none{x:St}(h:KeyS w l n)(hc:w.rangeF b o cs)(hx:StL (fun _=>True) w cs x)(hs:SizeOf.sizeOf x<=n):∀e∈l,e.key≠ .pointer (some ⟨b,o,Option.none⟩):=fun e he hk=>by obtain⟨b2,o2,cs2,y,h1,h2,h3,h4⟩:=h e he;rw[hk]at h1;cases h1;have e2:=cells_det hx.cells.1 h3.cells.1 hc h2;subst e2;have:=StL.det hx h3;subst this;omega
theorem KeyE.of(h:KeyE w l n)(hk:∀ (b o:Nat) (v:Value),w.cellF ⟨b,o,Option.none⟩=some v->w'.cellF ⟨b,o,Option.none⟩=some v):KeyE w' l n:=fun x hx=>by obtain⟨b,o,cs,y,h1,h2,h3,h4⟩:=h x hx;exact⟨b,o,cs,y,h1,fun t v hv=>hk _ _ _ (h2 t v hv),h3.keep fun b o v _=>hk b o v,h4⟩
theorem KeyS.of(h:KeyS w l n)(hk:∀ (b o:Nat) (v:Value),w.cellF ⟨b,o,Option.none⟩=some v->w'.cellF ⟨b,o,Option.none⟩=some v):KeyS w' l n:=fun x hx=>by obtain⟨b,o,cs,y,h1,h2,h3,h4⟩:=h x hx;exact⟨b,o,cs,y,h1,fun t v hv=>hk _ _ _ (h2 t v hv),h3.keep fun b o v _=>hk b o v,h4⟩
theorem KeyE.push{x:Ex}{es:Array MapEntry}{bn:Nat}(h:KeyE w es.toList n)(hc:w.rangeF b o cs)(hx:ExL (fun _=>True) w cs x)(hm:m<=n)(hs:m<SizeOf.sizeOf x):KeyE w (es.push ⟨.pointer (some ⟨b,o,Option.none⟩),v,bn⟩).toList m:=fun e he=>by
 simp only[Array.toList_push,List.mem_append,List.mem_singleton]at he;rcases he with he|rfl
 .obtain⟨b,o,cs,y,h1,h2,h3,h4⟩:=h e he;exact⟨b,o,cs,y,h1,h2,h3,by omega⟩
 .exact⟨b,o,cs,x,z,hc,hx,hs⟩
theorem KeyS.push{x:St}{es:Array MapEntry}{bn:Nat}(h:KeyS w es.toList n)(hc:w.rangeF b o cs)(hx:StL (fun _=>True) w cs x)(hm:m<=n)(hs:m<SizeOf.sizeOf x):KeyS w (es.push ⟨.pointer (some ⟨b,o,Option.none⟩),v,bn⟩).toList m:=fun e he=>by
 simp only[Array.toList_push,List.mem_append,List.mem_singleton]at he;rcases he with he|rfl
 .obtain⟨b,o,cs,y,h1,h2,h3,h4⟩:=h e he;exact⟨b,o,cs,y,h1,h2,h3,by omega⟩
 .exact⟨b,o,cs,x,z,hc,hx,hs⟩
end
structure Cpr (w:World) (c mS mE:Nat) (es ee:Array MapEntry):Prop where
 b:Blk w c 232 [.map (some mS),.map (some mE)]
 s:∃ck,w.1[mS]? =some (.map es ck)
 e:∃ck,w.1[mE]? =some (.map ee ck)
section
variable {w w':World} {c mS mE:Nat} {es ee en:Array MapEntry}
theorem Cpr.ls(h:Cpr w c mS mE es ee):mS<w.1.size:=h.s.elim fun _ h=> (Array.getElem?_eq_some_iff.1 h).1
theorem Cpr.le(h:Cpr w c mS mE es ee):mE<w.1.size:=h.e.elim fun _ h=> (Array.getElem?_eq_some_iff.1 h).1
theorem Cpr.ne{o:Nat}(h:Cpr w c mS mE es ee)(g:w.cellF ⟨b,o,none⟩=some v):b≠mS/\b≠mE:=by
 obtain⟨C,ty,hb⟩:=World.cellF_shape g;obtain⟨c1,h1⟩:=h.s;obtain⟨c2,h2⟩:=h.e;constructor
 .rintro rfl;rw[h1]at hb;cases hb
 .rintro rfl;rw[h2]at hb;cases hb
theorem Cpr.nc(h:Cpr w c mS mE es ee):c≠mS/\c≠mE:=by
 obtain⟨c1,h1⟩:=h.s;obtain⟨c2,h2⟩:=h.e;have hb:=h.b;unfold Blk at hb;constructor
 .rintro rfl;rw[h1]at hb;cases hb
 .rintro rfl;rw[h2]at hb;cases hb
theorem Cpr.cellF(h:Cpr w c mS mE es ee)(g:Kp w w' mS mE)(b o:Nat)(v:Value)(hv:w.cellF ⟨b,o,none⟩=some v):w'.cellF ⟨b,o,none⟩=some v:=kp_cell g (h.ne hv).1 (h.ne hv).2 hv
theorem Cpr.below(h:Cpr w c mS mE es ee)(g:bL w w'):Cpr w' c mS mE es ee:=by obtain⟨c1,h1⟩:=h.s;obtain⟨c2,h2⟩:=h.e;exact⟨h.b.below g,⟨c1,(g.block _ h.ls).trans h1⟩,⟨c2,(g.block _ h.le).trans h2⟩⟩
theorem Cpr.ch(h:Cpr w c mS mE es ee)(g:Ch b w w')(hb:c<b/\mS<b/\mE<b):Cpr w' c mS mE es ee:=by
 obtain⟨c1,h1⟩:=h.s;obtain⟨c2,h2⟩:=h.e;have k:∀k,k<b->w'.1[k]? =w.1[k]? :=fun k hk=>by obtain⟨_,vs,rfl⟩:=g;exact heap_setCells (by omega) _ _ _
 exact⟨h.b.of (k c hb.1),⟨c1,(k _ hb.2.1).trans h1⟩,⟨c2,(k _ hb.2.2).trans h2⟩⟩
theorem Cpr.putE(h:Cpr w c mS mE es ee)(hne:mS≠mE)(g:Kp w w' mE mE){ck:Nat}(hm:w'.1[mE]? =some (.map en ck)):Cpr w' c mS mE es en:=by obtain⟨c1,h1⟩:=h.s;exact⟨h.b.of (g.block _ h.b.lt h.nc.2 h.nc.2),⟨c1,(g.block _ h.ls hne hne).trans h1⟩,⟨ck,hm⟩⟩
theorem Cpr.putS(h:Cpr w c mS mE es ee)(hne:mS≠mE)(g:Kp w w' mS mS){ck:Nat}(hm:w'.1[mS]? =some (.map en ck)):Cpr w' c mS mE en ee:=by obtain⟨c1,h1⟩:=h.e;exact⟨h.b.of (g.block _ h.b.lt h.nc.1 h.nc.1),⟨ck,hm⟩,⟨c1,(g.block _ h.le hne.symm hne.symm).trans h1⟩⟩
theorem kp_put{o:Obj}:Kp w (w.putObj m o) m m:=⟨z,z,z,by simp,fun k _ hk _=>World.putObj_heap_other hk⟩
end
theorem wpList_update_ptr{pt et mt vt:TypeId}{ops:Array Oper}{rest:List Oper}{o:Oper}{a:Act}{Q:Exit->Act->World->Prop}(hg:o.guard=none)(x y z:Operand)(hop:o.op=Op.mapUpdate mt x y z)
  (K:PtrKey Tryz.prog pt et)(hm:Tryz.prog.underlying mt=some (.map pt vt))(m:Nat)(p:Addr)(v:Value){es:Array MapEntry}{ck:Nat}(hx:a.eval x= .map (some m))(hy:a.eval y= .pointer (some p))(hz:a.eval z=v)(h1:w.1[m]? =some (.map es ck))(hp:PtF w p)(hk:Keys1 w es.toList)(hn:∀x∈es.toList,x.key≠ .pointer (some p))
  (hK:∀w',Kp w w' m m->w'.1[m]? =some (.map (es.push ⟨.pointer (some p),v,ck⟩) (ck+1))->w'.1.size=w.1.size->wpList Tryz.prog ops Q rest (a.put o.dst undef) w'):wpList Tryz.prog ops Q (o::rest) a w:=by
 refine wpList_plain hg fun K' hK'=>?_;have hrun:=K.update0 hm v h1 hp hk hn;unfold Oper.wp;simp[execOp,hop,hx,hy,hz,hrun,Result.andThen];exact hK' _ _ (hK _ kp_put (World.putObj_heap_same (Array.getElem?_eq_some_iff.1 h1).1) (by simp))
theorem end_blkB{pt et mt vt:TypeId}(K:PtrKey Tryz.prog pt et)(hm:Tryz.prog.underlying mt=some (.map pt vt)){T:TypeId}{d:TypeDesc}(j:Tryz.prog.underlying T=some d)(H:d.isRow=true)(i:(Tryz.prog.info? T).map (·.size)=some n){g:Func}{R:Ending->World->Prop}{s:Tmp}{cs:List Value}(h:Blk W b T cs)(C:cs.length=n)(E:g.results= #[.cell s T])
  (G:A.tmps.getD s undef=Pt b){p:Addr}{bn ck:Nat}{es:Array MapEntry}{kt t:TypeId}{cn:Array Bool}(hd:A.defers=[⟨.builtin .delete #[mt,kt] t cn, #[.map (some m),.pointer (some p)]⟩])(h1:W.1[m]? =some (.map (es.push ⟨.pointer (some p),v,bn⟩) ck))(hp:PtF W p)(hk:Keys1 W es.toList)(hn:∀x∈es.toList,x.key≠ .pointer (some p))
  (J:∀W',Kp W W' m m->W'.1[m]? =some (.map es ck)->R (.returned (.agg cs.toArray)) W'):bodyPostB Tryz.prog g R .ret A W:=by
 have F:A.tmps[s]?.getD undef=Pt b:=by rw[<-G];simp
 have hrun:=K.delete hm v bn t kt h1 hp hk hn;have hne:b≠m:=by rintro rfl;unfold Blk at h;rw[h1]at h;cases h
 have h':Blk (W.putObj m (.map es ck)) b T cs:=h.of (World.putObj_heap_other hne);have D:=run_loadVar_mid (P:=Tryz.prog) (W.putObj m (.map es ck)) b 0 T cs d h'.whole j H (by rw[C];exact i);refine⟨.delete, #[mt,kt],t,cn,_,.tuple #[],W.putObj m (.map es ck),hd,?_,.agg cs.toArray,?_,J _ kp_put (World.putObj_heap_same (Array.getElem?_eq_some_iff.1 h1).1)⟩
 .simp[invoke,builtin,hrun]
 .simp[results,E,F,asAddr,D]
def CxR(w:World)(c mS mE:Nat)(es ee:Array MapEntry)(x:Ex)(e:Ending)(w':World):Prop:=
 (∃xs,e= .returned (.agg xs.toArray)/\ExL (w.1.size<=·) w' xs x)/\Kp w w' mS mE/\Cpr w' c mS mE es ee
structure CxA (w:World) (c mS mE:Nat) (es ee:Array MapEntry) (b o:Nat) (cs:List Value) (x:Ex):Prop where
 m:Cpr w c mS mE es ee
 ne:mS≠mE
 r:w.rangeF b o cs
 t:ExL (fun _=>True) w cs x
 k:KeyE w ee.toList (SizeOf.sizeOf x)
structure Xcp (w:World) (c mS mE:Nat) (es en:Array MapEntry) (ec:List Value) (W:World):Prop where
 k:Kp w W mS mE
 m:Cpr W c mS mE es en
 r:Blk W w.1.size 58 zExC
 o:Blk W (w.1.size+1) 58 ec
 lt:c<w.1.size/\mS<w.1.size/\mE<w.1.size
section
variable {w W W':World} {c mS mE:Nat} {es en ee:Array MapEntry} {ec ec':List Value}
theorem Xcp.call(h:Xcp w c mS mE es en ec W)(g:Kp W W' mS mE)(m:Cpr W' c mS mE es en):Xcp w c mS mE es en ec W':=by have:=h.lt;exact⟨h.k.trans g,m,h.r.kp g (by omega) (by omega),h.o.kp g (by omega) (by omega),h.lt⟩
theorem Xcp.below(h:Xcp w c mS mE es en ec W)(g:bL W W'):Xcp w c mS mE es en ec W':=h.call (Kp.below g) (h.m.below g)
theorem Xcp.sz(h:Xcp w c mS mE es en ec W):w.1.size+2<=W.1.size:=h.o.lt
theorem Xcp.belowB(h:Xcp w c mS mE es en ec W)(g:Below (w.1.size+2) W W'):Xcp w c mS mE es en ec W':=by have l:=h.lt;obtain⟨c1,h1⟩:=h.m.s;obtain⟨c2,h2⟩:=h.m.e;exact⟨h.k.to g (by omega),⟨h.m.b.of (g.block _ (by omega)),⟨c1,(g.block _ (by omega)).trans h1⟩,⟨c2,(g.block _ (by omega)).trans h2⟩⟩,h.r.of (g.block _ (by omega)),h.o.of (g.block _ (by omega)),l⟩
theorem Xcp.setO(h:Xcp w c mS mE es en ec W)(j:Blk W' (w.1.size+1) 58 ec')(g:Ch (w.1.size+1) W W'):Xcp w c mS mE es en ec' W':=by have l:=h.lt;exact⟨h.k.to (g.below (show w.1.size<=_ by omega) (Below.refl _ _)) (Nat.le_refl _),h.m.ch g (by omega),g.blk (by omega) h.r,j,l⟩
end
theorem Grow.olt{α:Type}{E:El α}{B:Nat}{l:List α}(h:Grow E B w v l)(hg:v.ownBlock=some g):B<=g/\g<w.1.size:=by obtain⟨cells,-,h5,-⟩:=h.own;exact h5.lt g hg
theorem cex_end{mS mE:Nat}{es ee:Array MapEntry}{o bn:Nat}{cs:List Value}{k n:Int}{sl:Int}{lo:Bool}{l:List Ex}{cn:Array Bool}
  (HA:Hid (CxA w c mS mE es ee b o cs (.mk k n s sl lo p0 l)))(D:Hid (Xcp w c mS mE es (ee.push ⟨.pointer (some ⟨b,o,none⟩),.agg #[],bn⟩) (exC k n s sl lo p0 (.slice a0 l.length j)) W))(K:Hid (Grow elEx (w.1.size+2) W (.slice a0 l.length j) l))(hU:l2.length=57:=by rfl):
  Code.wp Tryz.prog (dropS 6 (Tryz.f171.body.getD .skip)) (bodyPostB Tryz.prog Tryz.f171 (CxR w c mS mE es ee (.mk k n s sl lo p0 l))) ⟨(v0::v1::v2::v3::Pt w.1.size::Pt (w.1.size+1)::l2).toArray,[⟨.builtin .delete #[230,163] 0 cn, #[.map (some mE),.pointer (some ⟨b,o,none⟩)]⟩]⟩ W:=by
 revert l2;apply aN;iterate 57 intro _
 change Code.wp _ _ _ _ _;obtain⟨a7,a2,V⟩:=under58;have a1:Roomy l.length j:=by obtain⟨a,cap,h1,h2⟩:=K.form;cases h1;exact h2
 have a5:=O a1;have U:=O K.exs;clear a1 K;obtain⟨A,F⟩:∃A,exC k n s sl lo p0 (.slice a0 l.length j)=A:=⟨_,z⟩;have H:A.length=7/\∀v∈A,v.oneCell'=true:=by rw[<-F];exact exC_one
 rw[F]at D;have a3:=O F;have a6:=O H;have Y:=H.1;clear F H;conv in (dropS _ _)=>whnf
 go_wp2_with (first
  | (with_reducible refine l0 58 ?_;refine wpList_load_blk a2 V info58 z (.tmp 5) z (w.1.size+1) A z (O D.o.o) Y ?_)
  | (with_reducible refine s0 58 ?_;refine wpList_store_ch info58 z (.tmp 4) (.tmp 62) z w.1.size A _ z z D.o.r z a6.o ?_;intro W9 Q S;have M:=O (And.intro Q S);clear Q S)
 )
 have hl:=D.o.lt;have hm9:Cpr W9 c mS mE es (ee.push ⟨.pointer (some ⟨b,o,none⟩),.agg #[],bn⟩):=D.o.m.ch M.o.2 hl;have hk9:Kp w W9 mS mE:=D.o.k.to (M.o.2.below (Nat.le_refl _) (Below.refl _ _)) (Nat.le_refl _);have hcf:∀ (b o:Nat) (v:Value),w.cellF ⟨b,o,none⟩=some v->W9.cellF ⟨b,o,none⟩=some v:=fun b o v hv=>HA.o.m.cellF hk9 b o v hv;have hr9:W9.rangeF b o cs:=fun t v hv=>hcf _ _ _ (HA.o.r t v hv);have hx9:ExL (fun _=>True) W9 cs (.mk k n s sl lo p0 l):=HA.o.t.keep fun b o v _=>hcf b o v;have hK9:=HA.o.k.of hcf;obtain⟨ck,hmap⟩:=hm9.e
 refine end_blkB ptrE map230 a2 V info58 M.o.1 Y z z z hmap (rangeF_pt hr9 (by rw[hx9.cells.1];decide)) hK9.keys (hK9.none hr9 hx9 (Nat.le_refl _)) fun W' hk' hm'=>?_;refine⟨⟨A,z,?_⟩,hk9.trans (Kp.flip hk'.widen),hm9.putE HA.o.ne hk' hm'⟩;rw[<-a3.o];unfold ExL;refine⟨a0,j,z,a5,ExsL.weak (fun c C=>by have Z:=C;show w.1.size<=c;omega) (ExsL.keep (fun c2 o2 u C G=>?_) U)⟩;have Z:=C;have h1:W9.cellF ⟨c2,o2,none⟩=some u:=by rw[M.o.2.cellF (show c2≠w.1.size by omega)];exact G
 exact kp_cell hk' (hm9.ne h1).2 (hm9.ne h1).2 h1
theorem info233:(Tryz.prog.info? 233).map (·.size)=some 0:=by kernel_rfl
theorem zeroC233:∃i z,Tryz.prog.info? 233=some i/\i.zero=some z/\z.cells=([]:List Value).toArray:=infoZ (by kernel_rfl)
theorem cex_loop{mS mE:Nat}{es ee:Array MapEntry}{o bn:Nat}{cs:List Value}{k n:Int}{sl:Int}{lo:Bool}{cap:Nat}{args:List Ex}{cn:Array Bool}
  (HA:Hid (CxA w c mS mE es ee b o cs (.mk k n s sl lo p0 args)))(HC:Hid (cs=exC k n s sl lo p0 (.slice a args.length cap)/\ExsL (fun _=>True) w a 0 args))(HR:Roomy args.length cap)(b5:args.length<=10000000)
  (IH:Hid (∀y∈args,∀ (W:World) (b o:Nat) (ds:List Value) (en:Array MapEntry),CxA W c mS mE es en b o ds y->Calls Tryz.prog 171 #[Pt c,.pointer (some ⟨b,o,none⟩)] W (CxR W c mS mE es en y)))
  (E:Hid (Xcp w c mS mE es (ee.push ⟨.pointer (some ⟨b,o,none⟩),.agg #[],bn⟩) (exC k n s sl lo p0 (.slice none 0 0)) W))(hU:l2.length=57:=by rfl):
  Code.wp Tryz.prog (dropS 5 (Tryz.f171.body.getD .skip)) (bodyPostB Tryz.prog Tryz.f171 (CxR w c mS mE es ee (.mk k n s sl lo p0 args))) ⟨(Pt c:: .pointer (some ⟨b,o,none⟩)::v2::v3::Pt w.1.size::Pt (w.1.size+1)::l2).toArray,[⟨.builtin .delete #[230,163] 0 cn, #[.map (some mE),.pointer (some ⟨b,o,none⟩)]⟩]⟩ W:=by
 revert l2;apply aN;iterate 57 intro _
 change Code.wp _ _ _ _ _;obtain⟨f2,e1,d9⟩:=under58;obtain⟨i23,z23,f23,g23,h23⟩:=zeroC233;have c9:Hid (Tryz.prog.underlying 56=some (.slice 58)):=O (by kernel_rfl);obtain⟨i0,z0,M,a0,V,Z,a4⟩:∃i z,Tryz.prog.info? 58=some i/\i.zero=some z/\z.cells.size=7/\i.size=7/\i.bytes<=1024:=by have h:=infoEx;obtain⟨i,h1,h2⟩:=Option.map_eq_some_iff.1 h;simp only[Prod.mk.injEq]at h2;obtain⟨h3,h4,h5⟩:=h2;obtain⟨z,h6,h7⟩:=Option.map_eq_some_iff.1 h3;exact⟨i,z,h1,h6,h7,h4,of_decide_eq_true h5⟩
 have Y:=O (And.intro M (And.intro a0 (And.intro V (And.intro Z a4))));clear M a0 V Z a4;have hcell:∀W',Kp w W' mS mE->W'.cell? ⟨b,o+6,none⟩=some (.slice a args.length cap):=fun W' hk=>by have h1:=HA.o.r 6 (.slice a args.length cap) (by rw[HC.o.1];rfl);exact World.cellF_cell (HA.o.m.cellF hk _ _ _ h1)
 obtain⟨C,hN⟩:=eX (args.length);rw[hN]at b5 HR;simp only[hN]at hcell;have Q:=O hN;clear hN;have d8:=O HR;have g9:=O fun _:True=>b5;have HK:=O hcell;clear HR b5 hcell;have h4:Tryz.prog.follows .mixedOrders=true:=by kernel_rfl
 obtain⟨en,hen⟩:∃en:Array MapEntry,ee.push ⟨.pointer (some ⟨b,o,none⟩),.agg #[],bn⟩=en:=⟨_,rfl⟩;rw[hen]at E;have HE:=O hen;clear hen;conv in (dropS _ _)=>whnf
 refine wk fun KK a2=>?_;have c6:W.cell? ⟨b,o+6,none⟩=some (.slice a C cap):=HK.o W E.o.k;go_wp2_with fail;clear c6;go_loopg [29] C (fun x iv wr=>∃ (i:Nat) (acc:List Ex) (sv:Value),i<=C/\x=C-i/\iv=I i/\Hid (acc=args.take i)/\Hid (Grow elEx (w.1.size+2) wr sv acc)/\Hid (Xcp w c mS mE es en (exC k n s sl lo p0 sv) wr));case atStart=>exact⟨0,[],_,Nat.zero_le _,rfl,rfl,O rfl,O (Grow.nil _ _ _),E⟩
 case round=>
  clear E;obtain⟨i,acc,sv,hi,rfl,rfl,X,S,E⟩:=hrel;by_cases a5:i<C
  .have h9:(i:Int)< (C:Int):=by omega
   have h8:(0:Int)<=(i:Int):=by omega
   have f4:Hid (wrap64 ((i:Int)+1)=((i+1:Nat):Int)):=O (by have h1:=d8.o.1;have h2:=d8.o.2;have:=IntWalk.wrap64_in ((i:Int)+1) (by omega);rw[this];omega)
   obtain⟨b2,b8,ds,rfl,-,e3,a3⟩:=ExsL.atF HC.o.2 i (by rw[Q.o];exact a5);rw[Nat.zero_add]at e3;have d2:args.getD i zEx∈args:=by rw[List.getD_eq_getElem?_getD,List.getElem?_eq_getElem (by rw[Q.o];exact a5)];exact List.getElem_mem _
   have d6:args.take (i+1)=args.take i++[args.getD i zEx]:=by rw[List.take_succ_eq_append_getElem (by rw[Q.o];exact a5),List.getD_eq_getElem?_getD,List.getElem?_eq_getElem (by rw[Q.o];exact a5)];rfl
   have hsz:SizeOf.sizeOf (args.getD i zEx)<SizeOf.sizeOf (Ex.mk k n s sl lo p0 args):=by have:=List.sizeOf_lt_of_mem d2;simp only[Ex.mk.sizeOf_spec];omega
   have IHy:=IH.o _ d2;generalize args.getD i zEx=y at *;have HT:Hid (∀W',Kp w W' mS mE->CxA W' c mS mE es en b2 (b8+i*7) ds y∨¬Cpr W' c mS mE es en):=O fun W' hk=>by
    by_cases hm:Cpr W' c mS mE es en
    .have hcf:=HA.o.m.cellF hk;refine .inl ⟨hm,HA.o.ne,fun t v hv=>hcf _ _ _ (e3 t v hv),a3.keep fun b o v _=>hcf b o v,?_⟩;rw[<-HE.o];exact(HA.o.k.of hcf).push (fun t v hv=>hcf _ _ _ (HA.o.r t v hv)) (HA.o.t.keep fun b o v _=>hcf b o v) (by omega) hsz
    .exact .inr hm
   have HI:=O IHy;have g6:=O d6;clear IHy e3 a3 d2 d6 hsz;obtain⟨V,hV⟩:=eX wr.drew;have E2:Hid (Xcp w c mS mE es en (exC k n s sl lo p0 sv) V):=O (by rw[<-hV];exact E.o.below (Below.refl _ _).drew);have S2:Hid (Grow elEx (w.1.size+2) V sv acc):=O (by rw[<-hV];exact S.o.below (Below.refl _ _).drew);have HL:Hid (∀W',bL V W'->(Instr.lookup 230 (.map (some mE)) (.pointer (some ⟨b2,b8+i*7,none⟩)) true).run Tryz.prog W'= .ok (.tuple #[.agg #[],.bool false]) W'):=O fun W' hb=>by have h1:=E2.o.below hb;have h2:=(HT.o W' h1.k).resolve_right (fun h=>h h1.m);obtain⟨ck,h3⟩:=h1.m.e;exact ptrE.lookup0 map230 zero233 h3 (rangeF_pt h2.r (by rw[h2.t.cells.1];decide)) h2.k.keys (h2.k.none h2.r h2.t (Nat.le_refl _))
   clear E S;go_wp2_with fail;refine wp_region_x [] (fun W=>bL V W) h4 ?_;rw[hV];clear hV;have HS:Hid (bL V V):=O (Below.refl _ _);refine ai 0 ?_;refine nm ?_;refine af (fun W=>W.cell? ⟨c,1,none⟩=some (.map (some mE))) 3 (fun W h=>by rw[(E2.o.below h).m.b.cell];rfl) ?_;refine ai 4 ?_;refine nm ?_;refine af (fun W=>W.cell? ⟨b,o+6,none⟩=some (.slice (some ⟨b2,b8,none⟩) C cap)) 7 (fun W h=>HK.o W (E2.o.below h).k) ?_;refine ak 8 ?_;refine nm ?_;refine af (fun W=> (Instr.lookup 230 (.map (some mE)) (.pointer (some ⟨b2,b8+i*7,none⟩)) true).run Tryz.prog W= .ok (.tuple #[.agg #[],.bool false]) W) 10 (fun W h=>HL.o W h) ?_;refine ai 11 ?_;refine nm ?_;obtain⟨gz,hgz⟩:=eX V.1.size
   refine oD 14 fun K F=>?_;refine wp_alloc_blk f23 g23 h23 rfl gz hgz ?_;intro W2 k2 q2 s2;have B2:=O q2;apply F _ _ (fun _=>q2);clear F K q2;refine nm ?_;refine oD 15 fun K F=>?_;refine wp_store_ch info233 (.tmp 7) (.tmp 44) rfl gz [] [] rfl rfl k2 rfl ⟨rfl,fun v hv=>by cases hv⟩ ?_;intro W3 k3 c3;have B3:Hid (bL V W3):=O (c3.below (by omega) B2.o);apply F _ _ (fun _=>B3.o);clear F K k3 c3 k2 B2;refine nm ?_;refine ag 16 ?_;simp only[Act.put];refine dn ?_;have E3:=O (E2.o.below B3.o);have S3:=O (S2.o.below B3.o);clear E2 S2 B3 HS HL;obtain⟨ga,a8,rfl,b6⟩:=S3.o.form;have i4:=O b6;clear b6;obtain⟨V1,hV1⟩:=eX W3.drew
   have E4:Hid (Xcp w c mS mE es en (exC k n s sl lo p0 (.slice ga acc.length a8)) V1):=O (by rw[<-hV1];exact E3.o.below (Below.refl _ _).drew);have S4:Hid (Grow elEx (w.1.size+2) V1 (.slice ga acc.length a8) acc):=O (by rw[<-hV1];exact S3.o.below (Below.refl _ _).drew);clear E3 S3;have HB4:Hid (V1.cell? ⟨w.1.size+1,6,none⟩=some (.slice ga acc.length a8)/\V1.cell? ⟨b,o+6,none⟩=some (.slice (some ⟨b2,b8,none⟩) C cap)):=O ⟨by rw[E4.o.o.cell];rfl,HK.o V1 E4.o.k⟩;go_wp2_with fail;refine wp_region_x [13] (fun W=>W.cell? ⟨w.1.size+1,6,none⟩=some (.slice ga acc.length a8)/\W.cell? ⟨b,o+6,none⟩=some (.slice (some ⟨b2,b8,none⟩) C cap)) h4 ?_;rw[hV1];clear hV1;refine ag 0 ?_
   refine af (fun W=>W.cell? ⟨w.1.size+1,6,none⟩=some (.slice ga acc.length a8)) 1 (fun W h=>h.1) ?_;refine nm ?_;refine an 2 ?_;refine nm ?_;refine af (fun W=>W.cell? ⟨b,o+6,none⟩=some (.slice (some ⟨b2,b8,none⟩) C cap)) 6 (fun W h=>h.2) ?_;refine ak 7 ?_;refine nm ?_;refine oD 9 fun K F=>?_;go_simp;refine(HI.o V1 b2 (b8+i*7) ds en ((HT.o V1 E4.o.k).resolve_right fun h=>h E4.o.m)).mono ?_;rintro e V2 ⟨⟨xs,rfl,hx⟩,hk,hm⟩;have E5:=O (E4.o.call hk hm);have hlt:=E4.o.lt;have S5:=O (S4.o.kp hk (by omega) (by omega));have HL2:=O hx.cells;have hown:∀g,(Value.slice ga acc.length a8).ownBlock=some g->g<V1.1.size:=fun g hg=> (S4.o.olt hg).2
   have HX:Hid (elEx.L (fun c=>w.1.size+2<=c/\(Value.slice ga acc.length a8).ownBlock≠some c) V2 xs y):=O (ExL.weak (fun c hc=>by have h1:V1.1.size<=c:=hc;have h2:=E4.o.sz;exact⟨by omega,fun e=>by have:=hown c e;omega⟩) hx)
   apply F _ _ (fun _=>⟨by rw[E5.o.o.cell];rfl,HK.o V2 E5.o.k⟩);clear F K hx hk hm E4 S4 HB4 hown hlt;have M:=Y.o.1;have a0:=Y.o.2.1;have V7:=Y.o.2.2.1;have Z:=Y.o.2.2.2.1;have a4:=Y.o.2.2.2.2;refine oD 10 fun K F=>?_;refine wp_build1 (.tmp 57) rfl c9.o M a0 Z V7 (by decide) (by decide) _ xs rfl rfl HL2.o.1 ?_;intro Wb kb bb sb;have E6:=O (E5.o.below bb);have S6:=O (S5.o.below bb);have HX6:=O (elEx.keep (fun b o u _ hu=>below_cell bb b o u hu) HX.o);apply F _ _ (fun _=>⟨by rw[E6.o.o.cell];rfl,HK.o Wb E6.o.k⟩);clear F K E5 S5 HX bb sb;have hlen:acc.length<=10000000:=by rw[X.o,List.length_take];have:=g9.o trivial;rw[Q.o];omega
   refine oD 11 fun K F=>?_;refine wp_append_at elEx (.tmp 49) (.tmp 58) 56 rfl i0 z0 c9.o M a0 Z V7 (by decide) a4 (w.1.size+2) Wb (.slice ga acc.length a8) acc rfl S6.o xs y HX6.o _ 58 kb rfl hlen E6.o.sz ?_;intro gb capb W9 hg hb hk9 ho9;have E7:=O (E6.o.belowB hb);have S7:=O hg;apply F _ _ (fun _=>⟨by rw[E7.o.o.cell];rfl,HK.o W9 E7.o.k⟩);clear F K hg hb hk9 ho9 E6 S6 HX6 kb;have HB7:Hid (W9.cell? ⟨w.1.size+1,6,none⟩=some (.slice ga acc.length a8)/\W9.cell? ⟨b,o+6,none⟩=some (.slice (some ⟨b2,b8,none⟩) C cap)):=O ⟨by rw[E7.o.o.cell];rfl,HK.o W9 E7.o.k⟩;refine nm ?_;refine ag 12 ?_;refine nm ?_;refine oD 13 fun K F=>?_
   refine wp_store_one (by kernel_rfl) (.tmp 60) (.tmp 59) rfl (w.1.size+1) 6 58 (.slice (some ⟨gb,0,none⟩) (acc.length+1) capb) _ rfl rfl rfl rfl E7.o.o (by simp[exC]) ?_;intro W10 k10 c10;have E8:Hid (Xcp w c mS mE es en (exC k n s sl lo p0 (.slice (some ⟨gb,0,none⟩) (acc.length+1) capb)) W10):=O (E7.o.setO k10 c10);have S8:=O (c10.grow S7.o (by omega));apply F _ _ nofun;clear F K k10 c10 E7 S7;simp only[Act.put];refine dn ?_;go_wp2_with fail;go_roundg (C- (i+1));case measure=>omega
   case rel=>exact⟨i+1,acc++[y],_,by omega,rfl,congrArg (Value.int .i64) f4.o,O (by rw[g6.o,X.o]),S8,E8⟩
  .obtain rfl:i=C:=by omega
   have i2:¬ (i:Int)< (i:Int):=by omega
   have hacc:acc=args:=by rw[X.o,List.take_of_length_le (by rw[Q.o];exact Nat.le_refl _)]
   subst hacc;clear X;go_wp2_with fail;refine a2.o _ _ ?_;obtain⟨ga,a8,rfl,b6⟩:=S.o.form;rw[<-HE.o]at E;exact cex_end HA E S
theorem Ex.sms_mem:∀ {l:List Ex} {y:Ex},Ex.sms l->y∈l->y.sm
 | [],_,_,h=>by cases h
 |x::l,y,hs,h=>by
  unfold Ex.sms at hs
  rcases List.mem_cons.1 h with rfl|h
  .exact hs.1
  .exact Ex.sms_mem hs.2 h
theorem cex_step{mS mE:Nat}{es ee:Array MapEntry}{o:Nat}{cs:List Value}{x:Ex}(hs:x.sm)(H:CxA w c mS mE es ee b o cs x)
  (IH:∀y:Ex,SizeOf.sizeOf y<SizeOf.sizeOf x->y.sm->∀ (W:World) (b o:Nat) (ds:List Value) (en:Array MapEntry),CxA W c mS mE es en b o ds y->Calls Tryz.prog 171 #[Pt c,.pointer (some ⟨b,o,none⟩)] W (CxR W c mS mE es en y)):
  Calls Tryz.prog 171 #[Pt c,.pointer (some ⟨b,o,none⟩)] w (CxR w c mS mE es ee x):=by
 obtain⟨k,n,s,sl,lo,p0,args⟩:=x;obtain⟨f2,e1,d9⟩:=under58;obtain⟨i8,z8,f6,g2,g5⟩:=zero58;have hx:=H.t;unfold ExL at hx;obtain⟨a,cap,hcs,hr,hl⟩:=hx;unfold Ex.sm at hs;have HC:=O (And.intro hcs hl);have IH2:Hid (∀y∈args,∀ (W:World) (b o:Nat) (ds:List Value) (en:Array MapEntry),CxA W c mS mE es en b o ds y->Calls Tryz.prog 171 #[Pt c,.pointer (some ⟨b,o,none⟩)] W (CxR W c mS mE es en y)):=O fun y hy=>IH y (by have:=List.sizeOf_lt_of_mem hy;simp only[Ex.mk.sizeOf_spec];omega) (Ex.sms_mem hs.2 hy)
 have HS:=O hs.1;have HRm:=O hr;have HA:=O H;have hlt:c<w.1.size/\mS<w.1.size/\mE<w.1.size:=⟨H.m.b.lt,H.m.ls,H.m.le⟩;have HLT:=O hlt;have hl7:cs.length=7:=H.t.cells.1;have hone:=O H.t.cells.2;clear hs IH hcs hr hl H hlt;refine calls_of_wp_b Tryz.func171 z ?_;simp only[Tryz.ntmps171,List.size_toArray,List.length_cons,List.length_nil,Nat.reduceAdd,Nat.reduceSub,Array.replicate_succ,Array.replicate_zero,List.push_toArray,List.append_toArray,List.nil_append,List.cons_append];refine wk fun KK U=>?_;go_wp2_with (first
  | (with_reducible refine aa 4 (.alloc 58) ?_;refine wpList_alloc_blk f6 g2 g5 z z w.1.size z ?_;intro W1 k1 b1 s1;have K1:=O k1;have B1:=O b1;clear k1 b1)
 )
 refine U.o _ _ ?_;clear U KK;have C1:=O (HA.o.m.below B1.o);have c1:W1.cell? ⟨c,1,none⟩=some (.map (some mE)):=by rw[C1.o.b.cell];rfl
 have hcf:∀ (b o:Nat) (v:Value),w.cellF ⟨b,o,none⟩=some v->W1.cellF ⟨b,o,none⟩=some v:=fun b o v hv=>below_cell B1.o b o v hv;have hr1:W1.rangeF b o cs:=fun t v hv=>hcf _ _ _ (HA.o.r t v hv);have hx1:ExL (fun _=>True) W1 cs (.mk k n s sl lo p0 args):=HA.o.t.keep fun b o v _=>hcf b o v;have HK1:=O (HA.o.k.of hcf);have HP1:=O (rangeF_pt hr1 (by rw[hl7];decide));have HN1:=O (HK1.o.none hr1 hx1 (Nat.le_refl _));obtain⟨ck,hm1⟩:=C1.o.e;have HM1:=O hm1;clear hcf hr1 hx1 hm1;refine wk fun KK U=>?_;go_wp2_with (first
  | ((with_reducible refine ah (.mapUpdate 230 (.tmp 12) (.tmp 13) (.tmp 14)) ?_);refine wpList_update_ptr z (.tmp 12) (.tmp 13) (.tmp 14) z ptrE map230 mE ⟨b,o,none⟩ (.agg #[]) z z z HM1.o HP1.o HK1.o.keys HN1.o ?_;intro W2 k2 m2 s2;have K2:=O k2;have M2:=O m2;have S2:=O s2;clear k2 m2 s2)
 )
 refine U.o _ _ ?_;clear U KK c1;have C2:=O (C1.o.putE HA.o.ne K2.o M2.o);have R2:Hid (Blk W2 w.1.size 58 zExC):=O (K1.o.kp K2.o (by have:=HLT.o;omega) (by have:=HLT.o;omega));have KP2:Hid (Kp w W2 mS mE):=O ((Kp.below B1.o).trans (Kp.flip K2.o.widen));have c1:W2.cell? ⟨c,1,none⟩=some (.map (some mE)):=by rw[C2.o.b.cell];rfl
 have Z2:Hid (W2.1.size=w.1.size+1):=O (by rw[S2.o,s1]);clear K1 B1 C1 HK1 HP1 HN1 HM1 K2 M2 S2 s1;refine wk fun KK U=>?_;go_wp2_with fail;refine U.o _ _ ?_;clear U KK c1;have HR2:Hid (W2.rangeAt b o cs):=O (World.rangeF_at fun t v hv=>HA.o.m.cellF KP2.o _ _ _ (HA.o.r t v hv));refine wk fun KK U=>?_;go_wp2_with (first
  | (with_reducible refine l1 22 58 ?_;refine wpList_load_mid z 58 (.tmp 21) z b o z cs f2 HR2.o e1 d9 (by rw[hl7];exact info58) ?_)
  | (with_reducible refine aa 5 (.alloc 58) ?_;refine wpList_alloc_blk f6 g2 g5 z z (w.1.size+1) Z2.o ?_;intro W3 k3 b3 s3;have K3:=O k3;have B3:=O b3;clear k3 b3 s3)
  | (with_reducible refine s0 58 ?_;refine wpList_store_ch info58 z (.tmp 5) (.tmp 22) z (w.1.size+1) cs _ z z K3.o z ⟨hl7,hone.o⟩ ?_;intro W4 k4 c4;have K4:=O k4;have B4:Hid (bL W2 W4):=O (c4.below (by rw[Z2.o];exact Nat.le_refl _) B3.o);clear k4 c4 K3 B3)
 )
 refine U.o _ _ ?_;clear U KK;refine wk fun KK U=>?_;go_wp2_with (first
  | (with_reducible refine s0 56 ?_;refine wpList_store_one (by kernel_rfl) z (.tmp 23) (.const (.slice none 0 0)) z (w.1.size+1) 6 58 (.slice none 0 0) cs z z z z K4.o (by rw[hl7];decide) ?_;intro W5 k5 c5;have K5:=O k5;have B5:Hid (bL W2 W5):=O (c5.below (by rw[Z2.o];exact Nat.le_refl _) B4.o);clear k5 c5 K4 B4)
 )
 refine U.o _ _ ?_;clear U KK;have E5:Hid (Xcp w c mS mE es (ee.push ⟨.pointer (some ⟨b,o,none⟩),.agg #[],ck⟩) (exC k n s sl lo p0 (.slice none 0 0)) W5):=O ⟨KP2.o.trans (Kp.below B5.o),C2.o.below B5.o,R2.o.below B5.o,by have h:=K5.o;rw[HC.o.1]at h;exact h,HLT.o⟩;exact cex_loop HA HC HRm.o HS.o IH2 E5
theorem cex_all:∀ (m:Nat) (x:Ex),SizeOf.sizeOf x<m->x.sm->∀ {w:World} {c mS mE:Nat} {es ee:Array MapEntry} {b o:Nat} {cs:List Value},CxA w c mS mE es ee b o cs x->Calls Tryz.prog 171 #[Pt c,.pointer (some ⟨b,o,none⟩)] w (CxR w c mS mE es ee x)
 |0,_,h,_=>absurd h (Nat.not_lt_zero _)
 |m+1,x,h,hs=>fun H=>cex_step hs H fun y hy hsy _ _ _ _ _ H2=>cex_all m y (by omega) hsy H2
def CsR(w:World)(c mS mE:Nat)(es:Array MapEntry)(x:St)(e:Ending)(w':World):Prop:=
 (∃xs,e= .returned (.agg xs.toArray)/\StL (w.1.size<=·) w' xs x)/\Kp w w' mS mE/\Cpr w' c mS mE es #[]
structure CsA (w:World) (c mS mE:Nat) (es:Array MapEntry) (b o:Nat) (cs:List Value) (x:St):Prop where
 m:Cpr w c mS mE es #[]
 ne:mS≠mE
 r:w.rangeF b o cs
 t:StL (fun _=>True) w cs x
 k:KeyS w es.toList (SizeOf.sizeOf x)
def ClR(w:World)(c mS mE:Nat)(es:Array MapEntry)(l:List St)(e:Ending)(w':World):Prop:=
 (∃a cap,e= .returned (.slice a l.length cap)/\Roomy l.length cap/\StsL (w.1.size<=·) w' a 0 l)/\Kp w w' mS mE/\Cpr w' c mS mE es #[]
structure Lc (w:World) (c mS mE:Nat) (es:Array MapEntry) (W:World):Prop where
 k:Kp w W mS mE
 m:Cpr W c mS mE es #[]
 lt:c<w.1.size/\mS<w.1.size/\mE<w.1.size
section
variable {w W W':World} {c mS mE:Nat} {es:Array MapEntry}
theorem Lc.call(h:Lc w c mS mE es W)(g:Kp W W' mS mE)(m:Cpr W' c mS mE es #[]):Lc w c mS mE es W':=⟨h.k.trans g,m,h.lt⟩
theorem Lc.below(h:Lc w c mS mE es W)(g:bL W W'):Lc w c mS mE es W':=h.call (Kp.below g) (h.m.below g)
theorem Lc.belowB(h:Lc w c mS mE es W)(g:Below w.1.size W W'):Lc w c mS mE es W':=by have l:=h.lt;obtain⟨c1,h1⟩:=h.m.s;obtain⟨c2,h2⟩:=h.m.e;exact⟨h.k.to g (Nat.le_refl _),⟨h.m.b.of (g.block _ l.1),⟨c1,(g.block _ l.2.1).trans h1⟩,⟨c2,(g.block _ l.2.2).trans h2⟩⟩,l⟩
end
theorem csts_any{mS mE:Nat}{es:Array MapEntry}(a:Option Addr)(cap:Nat)(args:List St)(HR:Roomy args.length cap)(b5:args.length<=10000000)(H:Cpr w c mS mE es #[])(hne:mS≠mE)(HL:StsL (fun _=>True) w a 0 args)(HK:∀y∈args,KeyS w es.toList (SizeOf.sizeOf y))
  (IH:∀y∈args,∀ (W:World) (b o:Nat) (ds:List Value),CsA W c mS mE es b o ds y->Calls Tryz.prog 152 #[Pt c,.pointer (some ⟨b,o,none⟩)] W (CsR W c mS mE es y)):
  Calls Tryz.prog 125 #[Pt c,.slice a args.length cap] w (ClR w c mS mE es args):=by
 obtain⟨i23,z23,f23,g23,h23⟩:=zeroC233;have c9:Hid (Tryz.prog.underlying 44=some (.slice 60)):=O (by kernel_rfl);obtain⟨i0,z0,M,a0,V,Z,a4⟩:=info_el infoSt;have Y:=O (And.intro M (And.intro a0 (And.intro V (And.intro Z a4))));clear M a0 V Z a4;have E0:Hid (Lc w c mS mE es w):=O ⟨Kp.refl _ _ _,H,H.b.lt,H.ls,H.le⟩;have HC:=O HL;have HKS:=O HK;have HI:=O IH;have HM:=O H;have HNE:=O hne;obtain⟨C,hN⟩:=eX (args.length);rw[hN]at b5 HR ⊢;have Q:=O hN;have d8:=O HR;have g9:=O fun _:True=>b5;clear hN HR b5 HL HK IH H hne;have h4:Tryz.prog.follows .mixedOrders=true:=by kernel_rfl
 go_enter Tryz.func125,Tryz.ntmps125;refine wk fun KK U=>?_;go_wp2_with fail;refine U.o _ _ ?_;clear U KK;refine wk fun KK U=>?_;go_wp2_with fail;refine U.o _ _ ?_;clear U KK;refine wk fun KK a2=>?_;go_wp2_with fail;go_loopg [5,11] C (fun x sv iv wr=>∃ (i:Nat) (acc:List St),i<=C/\x=C-i/\iv=I i/\Hid (acc=args.take i)/\Hid (Grow elSt w.1.size wr sv acc)/\Hid (Lc w c mS mE es wr));case atStart=>exact⟨0,[],Nat.zero_le _,z,z,O z,O (Grow.nil _ _ _),E0⟩
 case round=>
  clear E0;obtain⟨i,acc,hi,rfl,rfl,X,S,E⟩:=hrel;obtain⟨ga,a8,rfl,b6⟩:=S.o.form;have i4:=O b6;clear b6;by_cases a5:i<C
  .have h9:(i:Int)< (C:Int):=by omega
   have h8:(0:Int)<=(i:Int):=by omega
   have f4:Hid (wrap64 ((i:Int)+1)=((i+1:Nat):Int)):=O (by have h1:=d8.o.1;have h2:=d8.o.2;have:=IntWalk.wrap64_in ((i:Int)+1) (by omega);rw[this];omega)
   obtain⟨b2,b8,ds,rfl,-,e3,a3⟩:=StsL.atF HC.o i (by rw[Q.o];exact a5);rw[Nat.zero_add]at e3;have d2:args.getD i default∈args:=by rw[List.getD_eq_getElem?_getD,List.getElem?_eq_getElem (by rw[Q.o];exact a5)];exact List.getElem_mem _
   have d6:args.take (i+1)=args.take i++[args.getD i default]:=by rw[List.take_succ_eq_append_getElem (by rw[Q.o];exact a5),List.getD_eq_getElem?_getD,List.getElem?_eq_getElem (by rw[Q.o];exact a5)];rfl
   have IHy:=HI.o _ d2;have HKy:=HKS.o _ d2;generalize args.getD i default=y at *;have HT:Hid (∀W',Lc w c mS mE es W'->CsA W' c mS mE es b2 (b8+i*25) ds y):=O fun W' h=>by have hcf:=HM.o.cellF h.k;exact⟨h.m,HNE.o,fun t v hv=>hcf _ _ _ (e3 t v hv),a3.keep fun b o v _=>hcf b o v,HKy.of hcf⟩
   have HIy:=O IHy;have g6:=O d6;clear IHy e3 a3 d2 d6 HKy;obtain⟨V,hV⟩:=eX wr.drew;have E2:Hid (Lc w c mS mE es V):=O (by rw[<-hV];exact E.o.below (Below.refl _ _).drew);have S2:Hid (Grow elSt w.1.size V (.slice ga acc.length a8) acc):=O (by rw[<-hV];exact S.o.below (Below.refl _ _).drew);have HL:Hid (∀W',bL V W'->(Instr.lookup 229 (.map (some mS)) (.pointer (some ⟨b2,b8+i*25,none⟩)) true).run Tryz.prog W'= .ok (.tuple #[.agg #[],.bool false]) W'):=O fun W' hb=>by have h1:=E2.o.below hb;have h2:=HT.o W' h1;obtain⟨ck,h3⟩:=h1.m.s;exact ptrS.lookup0 map229 zero233 h3 (rangeF_pt h2.r (by rw[h2.t.cells.1];decide)) h2.k.keys (h2.k.none h2.r h2.t (Nat.le_refl _))
   clear E S;go_wp2_with fail;refine wp_region_x [] (fun W=>bL V W) h4 ?_;rw[hV];clear hV;have HS:Hid (bL V V):=O (Below.refl _ _);refine ai 0 ?_;refine nm ?_;refine af (fun W=>W.cell? ⟨c,0,none⟩=some (.map (some mS))) 3 (fun W h=>by rw[((E2.o.below h).m.b).cell];rfl) ?_;refine ai 4 ?_;refine nm ?_;refine af (fun W=> (Instr.lookup 229 (.map (some mS)) (.pointer (some ⟨b2,b8+i*25,none⟩)) true).run Tryz.prog W= .ok (.tuple #[.agg #[],.bool false]) W) 7 (fun W h=>HL.o W h) ?_;refine ai 8 ?_;refine nm ?_;obtain⟨gz,hgz⟩:=eX V.1.size;refine oD 11 fun K F=>?_;refine wp_alloc_blk f23 g23 h23 z gz hgz ?_;intro W2 k2 q2 s2;have B2:=O q2;apply F _ _ (fun _=>q2);clear F K q2;refine nm ?_
   refine oD 12 fun K F=>?_;refine wp_store_ch info233 (.tmp 7) (.tmp 23) z gz [] [] z z k2 z ⟨z,fun v hv=>by cases hv⟩ ?_;intro W3 k3 c3;have B3:Hid (bL V W3):=O (c3.below (by omega) B2.o);apply F _ _ (fun _=>B3.o);clear F K k3 c3 k2 B2;refine nm ?_;refine ag 13 ?_;simp only[Act.put];refine dn ?_;have E3:=O (E2.o.below B3.o);have S3:=O (S2.o.below B3.o);clear E2 S2 B3 HS HL;have hcall:=HIy.o W3 b2 (b8+i*25) ds (HT.o W3 E3.o);go_wp2_with fail;refine hcall.mono ?_;clear hcall;rintro e V2 ⟨⟨xs,rfl,hx⟩,hk,hm⟩;have E5:=O (E3.o.call hk hm);have hlt:=E3.o.lt;have S5:=O (S3.o.kp hk (by omega) (by omega));have HL2:=O hx.cells
   have hown:∀g,(Value.slice ga acc.length a8).ownBlock=some g->g<W3.1.size:=fun g hg=> (S3.o.olt hg).2;have HX:Hid (elSt.L (fun c=>w.1.size<=c/\(Value.slice ga acc.length a8).ownBlock≠some c) V2 xs y):=O (StL.weak (fun c hc=>by have h1:W3.1.size<=c:=hc;have h2:=E3.o.k.size;exact⟨by omega,fun e=>by have:=hown c e;omega⟩) hx)
   clear hx hk hm E3 S3 hown hlt;have M:=Y.o.1;have a0:=Y.o.2.1;have V7:=Y.o.2.2.1;have Z:=Y.o.2.2.2.1;have a4:=Y.o.2.2.2.2;have hlen:acc.length<=10000000:=by rw[X.o,List.length_take];have:=g9.o trivial;rw[Q.o];omega
   have HLEN:=O fun _:True=>hlen;clear hlen;go_wp2_with (first
    | ((with_reducible show wpList _ _ _ (Oper.mk (some 33) _ _ _ _ _::_) _ _);refine wpList_build1 z (.tmp 32) z c9.o M a0 V7 Z (by decide) (by decide) _ xs z z HL2.o.1 ?_;obtain⟨gE,a1⟩:=eX (V2.1.size);rw[a1];intro Wb kb bb sb;have KB:=O kb;have S6:=O (S5.o.below bb);have E6:=O (E5.o.below bb);have HX6:=O (elSt.keep (fun b o u _ hu=>below_cell bb b o u hu) HX.o);clear kb bb sb S5 E5 HX)
    | (at_builtin;refine wpList_append_at elSt z (.tmp 27) (.tmp 33) 44 z i0 z0 c9.o M a0 V7 Z (by decide) a4 w.1.size Wb (.slice ga acc.length a8) acc z S6.o xs y HX6.o _ 60 KB.o z (HLEN.o trivial) E6.o.k.size ?_;intro gb i1 W9 e2 d7 e5 e8;have S7:=O e2;have E7:=O (E6.o.belowB d7);clear e2 d7 e5 e8)
   )
   go_roundg (C- (i+1));case measure=>omega
   case rel=>exact⟨i+1,acc++[y],by omega,z,congrArg (Value.int .i64) f4.o,O (by rw[g6.o,X.o]),by simpa using S7,E7⟩
  .obtain rfl:i=C:=by omega
   have i2:¬ (i:Int)< (i:Int):=by omega
   have hacc:acc=args:=by rw[X.o,List.take_of_length_le (by rw[Q.o];exact Nat.le_refl _)]
   subst hacc;clear X;go_wp2_with fail;refine a2.o _ _ ?_;clear a2;go_wp2_with fail;go_ret;refine⟨⟨ga,a8,z,i4.o,S.o.sts⟩,E.o.k,E.o.m⟩
mutual
def St.szl:St->Prop
 | .mk _ _ _ _ _ x y body els _ _ _ _=> (x.sm/\y.sm)/\(body.length<=10000000/\els.length<=10000000)/\St.szs body/\St.szs els
def St.szs:List St->Prop
 | []=>True
 |s::r=>s.szl/\St.szs r
end
theorem St.szs_mem:∀ {l:List St} {y:St},St.szs l->y∈l->y.szl
 | [],_,_,h=>by cases h
 |x::l,y,hs,h=>by
  unfold St.szs at hs
  rcases List.mem_cons.1 h with rfl|h
  .exact hs.1
  .exact St.szs_mem hs.2 h
theorem rangeF_mid{o:Nat}{pre mid post:List Value}(h:w.rangeF b o (pre++(mid++post))):w.rangeF b (o+pre.length) mid:=fun j v hv=>by have D:=(List.getElem?_eq_some_iff.1 hv).1;have:=h (pre.length+j) v (by rw[List.getElem?_append_right (by omega),Nat.add_sub_cancel_left,List.getElem?_append_left D];exact hv);rw[Nat.add_assoc];exact this
theorem wp_store_part{o:Oper}{a:Act}{D:Act->World->Prop}{C:Exit->Act->World->Prop}{T F:TypeId}(M:(Tryz.prog.info? T).map (·.size)=some n)(x y:Operand)(J:o.op= .store T x y)
  (b k:Nat)(vs:List Value){pre mid post:List Value}(N:a.eval x= .pointer (some ⟨b,k,none⟩))(K:a.eval y= .agg vs.toArray)(A:Blk w b F (pre++(mid++post)))(H:pre.length=k)(j:mid.length=n)(g:vs.length=n/\∀v∈vs,v.oneCell'=true)(h:∀W,Blk W b F (pre++(vs++post))->Ch b w W->D (a.put o.dst undef) W):Oper.wp Tryz.prog o a w D C:=by
 subst H;exact wp_store_mid T x y J b pre.length vs.toArray N K (A.there (by simp[j,g.1])) (by rw[M];simp[g.1]) (all_oneCell_toArray g.2) (by simpa using h _ (A.put (by rw[g.1,j])) ⟨pre.length,vs,z⟩)
structure Ysc (w:World) (c mS mE:Nat) (sn:Array MapEntry) (C R:List Value) (W:World):Prop where
 k:Kp w W mS mE
 m:Cpr W c mS mE sn #[]
 r:Blk W w.1.size 60 R
 o:Blk W (w.1.size+1) 60 C
 lt:c<w.1.size/\mS<w.1.size/\mE<w.1.size
section
variable {w W W':World} {c mS mE:Nat} {sn:Array MapEntry} {C C' R R':List Value}
theorem Ysc.call(h:Ysc w c mS mE sn C R W)(g:Kp W W' mS mE)(m:Cpr W' c mS mE sn #[]):Ysc w c mS mE sn C R W':=by have:=h.lt;exact⟨h.k.trans g,m,h.r.kp g (by omega) (by omega),h.o.kp g (by omega) (by omega),h.lt⟩
theorem Ysc.below(h:Ysc w c mS mE sn C R W)(g:bL W W'):Ysc w c mS mE sn C R W':=h.call (Kp.below g) (h.m.below g)
theorem Ysc.sz(h:Ysc w c mS mE sn C R W):w.1.size+2<=W.1.size:=h.o.lt
theorem Ysc.setO(h:Ysc w c mS mE sn C R W)(j:Blk W' (w.1.size+1) 60 C')(g:Ch (w.1.size+1) W W'):Ysc w c mS mE sn C' R W':=by have l:=h.lt;exact⟨h.k.to (g.below (show w.1.size<=_ by omega) (Below.refl _ _)) (Nat.le_refl _),h.m.ch g (by omega),g.blk (by omega) h.r,j,l⟩
end
theorem exl_kp{mS mE:Nat}{es ee:Array MapEntry}(h:Cpr W c mS mE es ee)(g:Kp W V mS mE){cs:List Value}{x:Ex}(hx:ExL (n<=·) W cs x):ExL (n<=·) V cs x:=hx.keep fun b o v _=>h.cellF g b o v
theorem stsl_kp{mS mE:Nat}{es ee:Array MapEntry}(h:Cpr W c mS mE es ee)(g:Kp W V mS mE){l:List St}(hx:StsL (n<=·) W a 0 l):StsL (n<=·) V a 0 l:=StsL.keep (fun b o v _=>h.cellF g b o v) hx
theorem Ch.exN(j:Ch b w W)(h:b<n){cs:List Value}{x:Ex}(hx:ExL (n<=·) w cs x):ExL (n<=·) W cs x:=hx.keep fun c o u g A=>by have C:=g;rw[j.cellF (by omega)];exact A
theorem Ch.stsN(j:Ch b w W)(h:b<n){l:List St}(hx:StsL (n<=·) w a 0 l):StsL (n<=·) W a 0 l:=StsL.keep (fun c o u g A=>by have C:=g;rw[j.cellF (by omega)];exact A) hx
theorem cst_tail{mS mE:Nat}{es:Array MapEntry}{o bn:Nat}{k l c0:Int}{cx cy:List Value}{x y:Ex}{a':Option Addr}{cap cap':Nat}{body els:List St}{id sl ot:Int}{lo:Bool}{cn:Array Bool}{R0:List Value}(hR0:R0.length=25)
  (HA:Hid (CsA w c mS mE es b o (stC k l c0 s t cx cy (.slice a body.length cap) (.slice a' els.length cap') id sl ot lo) (.mk k l c0 s t x y body els id sl ot lo)))
  (HX:Hid (ExL (fun _=>True) w cx x))(HY:Hid (ExL (fun _=>True) w cy y))(HB:Hid (Roomy body.length cap/\StsL (fun _=>True) w a 0 body))(HE:Hid (Roomy els.length cap'/\StsL (fun _=>True) w a' 0 els))
  (HZ:Hid (St.szl (.mk k l c0 s t x y body els id sl ot lo)))
  (IH:Hid (∀z:St,SizeOf.sizeOf z<SizeOf.sizeOf (St.mk k l c0 s t x y body els id sl ot lo)->z.szl->∀ (W:World) (b o:Nat) (ds:List Value) (en:Array MapEntry),CsA W c mS mE en b o ds z->Calls Tryz.prog 152 #[Pt c,.pointer (some ⟨b,o,none⟩)] W (CsR W c mS mE en z)))
  (E:Hid (Ysc w c mS mE (es.push ⟨.pointer (some ⟨b,o,none⟩),.agg #[],bn⟩) (stC k l c0 s t cx cy (.slice a body.length cap) (.slice a' els.length cap') id sl ot lo) R0 W))(hU:l2.length=41:=by rfl):
  Code.wp Tryz.prog (dropS 4 (Tryz.f152.body.getD .skip)) (bodyPostB Tryz.prog Tryz.f152 (CsR w c mS mE es (.mk k l c0 s t x y body els id sl ot lo))) ⟨(Pt c:: .pointer (some ⟨b,o,none⟩)::v2::v3::Pt w.1.size::Pt (w.1.size+1)::l2).toArray,[⟨.builtin .delete #[229,153] 0 cn, #[.map (some mS),.pointer (some ⟨b,o,none⟩)]⟩]⟩ W:=by
 revert l2;apply aN;iterate 41 intro _
 change Code.wp _ _ _ _ _;obtain⟨h9,d9,g2⟩:=under60;have h4:Tryz.prog.follows .mixedOrders=true:=by kernel_rfl
 have Z:=O HX.cells;have a6:=O HY.cells;obtain⟨sn,hen⟩:∃en:Array MapEntry,es.push ⟨.pointer (some ⟨b,o,none⟩),.agg #[],bn⟩=en:=⟨_,rfl⟩;rw[hen]at E;have HSN:=O hen;clear hen;have hz:=HZ.o;unfold St.szl at hz;have HZ2:=O hz;clear hz HZ;have hr:=HA.o.r;have hr5:Hid (w.rangeF b (o+5) cx):=O (by have h:=hr;rw[stC_x]at h;exact rangeF_mid h)
 have hr12:Hid (w.rangeF b (o+12) cy):=O (by have h:=hr;rw[stC_y]at h;have h2:=rangeF_mid h;rw[show (Value.int .i64 k:: .int .i64 l:: .int .i64 c0:: .string s:: .string t::cx).length=12 by simp[Z.o.1]]at h2;exact h2)
 have hat:=stC_at rfl Z.o.1 a6.o.1 (C:=stC k l c0 s t cx cy (.slice a body.length cap) (.slice a' els.length cap') id sl ot lo);have HC19:Hid (∀W',Kp w W' mS mE->W'.cell? ⟨b,o+19,none⟩=some (.slice a body.length cap)):=O fun W' hk=>World.cellF_cell (HA.o.m.cellF hk _ _ _ (hr 19 _ hat.2.2.2.2.2.1));have HC20:Hid (∀W',Kp w W' mS mE->W'.cell? ⟨b,o+20,none⟩=some (.slice a' els.length cap')):=O fun W' hk=>World.cellF_cell (HA.o.m.cellF hk _ _ _ (hr 20 _ hat.2.2.2.2.2.2.1));clear hr hat;conv in (dropS _ _)=>whnf
 refine wk fun KK U=>?_;obtain⟨V,hV⟩:=eX W.drew;have E1:Hid (Ysc w c mS mE sn (stC k l c0 s t cx cy (.slice a body.length cap) (.slice a' els.length cap') id sl ot lo) R0 V):=O (by rw[<-hV];exact E.o.below (Below.refl _ _).drew);clear E;go_wp2;refine wp_region_x [11,12,13] (fun _=>True) h4 ?_;rw[hV];clear hV;have HS:Hid True:=O trivial;refine an 0 ?_;refine nm ?_;refine an 5 ?_;refine nm ?_;refine oD 4 fun K F=>?_;go_simp;have hA1:CxA V c mS mE sn #[] b (o+5) cx x:=by have hcf:=HA.o.m.cellF E1.o.k;exact⟨E1.o.m,HA.o.ne,fun t v hv=>hcf _ _ _ (hr5.o t v hv),HX.o.keep fun b o v _=>hcf b o v,KeyE.nil⟩
 refine(cex_all _ x (Nat.lt_succ_self _) HZ2.o.1.1 hA1).mono ?_;clear hA1;rintro e V2 ⟨⟨xs,rfl,hx⟩,hk,hm⟩;have E2:=O (E1.o.call hk hm);have hx2:Hid (ExL (w.1.size+2<=·) V2 xs x):=O (ExL.weak (fun q hq=>by have h1:V.1.size<=q:=hq;have:=E1.o.sz;show w.1.size+2<=q;omega) hx);have hxc:=O hx.cells;apply F _ _ (fun _=>trivial);clear F K hx hk hm E1;refine ag 10 ?_;refine nm ?_;refine oD 9 fun K F=>?_;go_simp;have hA1:CxA V2 c mS mE sn #[] b (o+12) cy y:=by have hcf:=HA.o.m.cellF E2.o.k;exact⟨E2.o.m,HA.o.ne,fun t v hv=>hcf _ _ _ (hr12.o t v hv),HY.o.keep fun b o v _=>hcf b o v,KeyE.nil⟩
 refine(cex_all _ y (Nat.lt_succ_self _) HZ2.o.1.2 hA1).mono ?_;clear hA1;rintro e V3 ⟨⟨ys,rfl,hy⟩,hk,hm⟩;have E3:=O (E2.o.call hk hm);have hx3:=O (exl_kp E2.o.m hk hx2.o);have hy3:Hid (ExL (w.1.size+2<=·) V3 ys y):=O (ExL.weak (fun q hq=>by have h1:V2.1.size<=q:=hq;have:=E2.o.sz;show w.1.size+2<=q;omega) hy);have hyc:=O hy.cells;apply F _ _ (fun _=>trivial);clear F K hy hk hm E2 hx2;refine oD 11 fun K F=>?_;refine wp_store_part info58 (.tmp 30) (.tmp 24) rfl (w.1.size+1) 5 xs rfl rfl (by have h:=E3.o.o;rw[stC_x]at h;exact h) rfl Z.o.1 hxc.o ?_;intro V4 k4 c4;rw[<-stC_x]at k4;have E4:=O (E3.o.setO k4 c4);have hx4:=O (c4.exN (by omega) hx3.o);have hy4:=O (c4.exN (by omega) hy3.o)
 apply F _ _ nofun;clear F K k4 c4 E3 hx3 hy3;refine oD 12 fun K F=>?_;go_simp;apply F _ _ nofun;clear F K;refine oD 13 fun K F=>?_;refine wp_store_part info58 (.tmp 31) (.tmp 29) rfl (w.1.size+1) 12 ys rfl rfl (by have h:=E4.o.o;rw[stC_y]at h;exact h) (by simp[hxc.o.1]) a6.o.1 hyc.o ?_;intro V5 k5 c5;rw[<-stC_y]at k5;have E5:=O (E4.o.setO k5 c5);have hx5:=O (c5.exN (by omega) hx4.o);have hy5:=O (c5.exN (by omega) hy4.o);apply F _ _ nofun;clear F K k5 c5 E4 hx4 hy4;simp only[Act.put];refine dn ?_;go_wp2_with fail;refine U.o _ _ ?_;clear U KK;refine wk fun KK U=>?_;obtain⟨V6,hV⟩:=eX V5.drew
 have E6:Hid (Ysc w c mS mE sn (stC k l c0 s t xs ys (.slice a body.length cap) (.slice a' els.length cap') id sl ot lo) R0 V6):=O (by rw[<-hV];exact E5.o.below (Below.refl _ _).drew);have hx6:Hid (ExL (w.1.size+2<=·) V6 xs x):=O (by rw[<-hV];exact hx5.o.keep fun b o v _ hv=>below_cell (Below.refl _ V5).drew b o v hv);have hy6:Hid (ExL (w.1.size+2<=·) V6 ys y):=O (by rw[<-hV];exact hy5.o.keep fun b o v _ hv=>below_cell (Below.refl _ V5).drew b o v hv);clear E5 hx5 hy5;have HKS:Hid (∀V,Kp w V mS mE->∀z:St,SizeOf.sizeOf z<SizeOf.sizeOf (St.mk k l c0 s t x y body els id sl ot lo)->KeyS V sn.toList (SizeOf.sizeOf z)):=O fun V hk z hz=>by have hcf:=HA.o.m.cellF hk;rw[<-HSN.o];exact(HA.o.k.of hcf).push (fun t v hv=>hcf _ _ _ (HA.o.r t v hv)) (HA.o.t.keep fun b o v _=>hcf b o v) (by omega) hz
 have hzb:Hid (∀z∈body,SizeOf.sizeOf z<SizeOf.sizeOf (St.mk k l c0 s t x y body els id sl ot lo)):=O fun z hz=>by have:=List.sizeOf_lt_of_mem hz;simp only[St.mk.sizeOf_spec];omega
 have hze:Hid (∀z∈els,SizeOf.sizeOf z<SizeOf.sizeOf (St.mk k l c0 s t x y body els id sl ot lo)):=O fun z hz=>by have:=List.sizeOf_lt_of_mem hz;simp only[St.mk.sizeOf_spec];omega
 have HCB:Hid (∀V,Ysc w c mS mE sn (stC k l c0 s t xs ys (.slice a body.length cap) (.slice a' els.length cap') id sl ot lo) R0 V->Calls Tryz.prog 125 #[Pt c,.slice a body.length cap] V (ClR V c mS mE sn body)):=O fun V h=>by have hcf:=HA.o.m.cellF h.k;exact csts_any a cap body HB.o.1 HZ2.o.2.1.1 h.m HA.o.ne (StsL.keep (fun b o v _=>hcf b o v) HB.o.2) (fun z hz=>HKS.o V h.k z (hzb.o z hz)) fun z hz W b o ds=>IH.o z (hzb.o z hz) (St.szs_mem HZ2.o.2.2.1 hz) W b o ds sn
 have HCE:Hid (∀V,Ysc w c mS mE sn (stC k l c0 s t xs ys (.slice a body.length cap) (.slice a' els.length cap') id sl ot lo) R0 V->Calls Tryz.prog 125 #[Pt c,.slice a' els.length cap'] V (ClR V c mS mE sn els)):=O fun V h=>by have hcf:=HA.o.m.cellF h.k;exact csts_any a' cap' els HE.o.1 HZ2.o.2.1.2 h.m HA.o.ne (StsL.keep (fun b o v _=>hcf b o v) HE.o.2) (fun z hz=>HKS.o V h.k z (hze.o z hz)) fun z hz W b o ds=>IH.o z (hze.o z hz) (St.szs_mem HZ2.o.2.2.2 hz) W b o ds sn
 clear HKS hzb hze;obtain⟨NB,hNB⟩:=eX body.length;obtain⟨NE,hNE⟩:=eX els.length;have HNB:=O hNB;have HNE:=O hNE;simp only[hNB,hNE]at HC19 HC20 HCB HCE E6;clear hNB hNE;go_wp2;refine wp_region_x [13,14,15] (fun W=>W.cell? ⟨b,o+19,none⟩=some (.slice a NB cap)/\W.cell? ⟨b,o+20,none⟩=some (.slice a' NE cap')) h4 ?_;rw[hV];clear hV;have HS6:Hid (V6.cell? ⟨b,o+19,none⟩=some (.slice a NB cap)/\V6.cell? ⟨b,o+20,none⟩=some (.slice a' NE cap')):=O ⟨HC19.o V6 E6.o.k,HC20.o V6 E6.o.k⟩;refine an 0 ?_;refine nm ?_;refine af (fun W=>W.cell? ⟨b,o+19,none⟩=some (.slice a NB cap)) 4 (fun W h=>h.1) ?_;refine an 6 ?_;refine nm ?_
 refine af (fun W=>W.cell? ⟨b,o+20,none⟩=some (.slice a' NE cap')) 10 (fun W h=>h.2) ?_;refine nm ?_;refine oD 5 fun K F=>?_;go_simp;refine(HCB.o V6 E6.o).mono ?_;rintro e V7 ⟨⟨ab,capb,rfl,hrb,hlb⟩,hk,hm⟩;rw[HNB.o];have E7:=O (E6.o.call hk hm);have hx7:=O (exl_kp E6.o.m hk hx6.o);have hy7:=O (exl_kp E6.o.m hk hy6.o);have hb7:Hid (Roomy body.length capb/\StsL (w.1.size+2<=·) V7 ab 0 body):=O ⟨hrb,StsL.weak (fun q hq=>by have h1:V6.1.size<=q:=hq;have:=E6.o.sz;show w.1.size+2<=q;omega) hlb⟩;have HS7:Hid (V7.cell? ⟨b,o+19,none⟩=some (.slice a NB cap)/\V7.cell? ⟨b,o+20,none⟩=some (.slice a' NE cap')):=O ⟨HC19.o V7 E7.o.k,HC20.o V7 E7.o.k⟩;apply F _ _ (fun _=>HS7.o)
 clear F K hk hm hrb hlb E6 hx6 hy6 HS6 HCB;refine ag 12 ?_;refine nm ?_;refine oD 11 fun K F=>?_;go_simp;refine(HCE.o V7 E7.o).mono ?_;rintro e V8 ⟨⟨ae,cape,rfl,hre,hle⟩,hk,hm⟩;rw[HNE.o];have E8:=O (E7.o.call hk hm);have hx8:=O (exl_kp E7.o.m hk hx7.o);have hy8:=O (exl_kp E7.o.m hk hy7.o);have hb8:=O (And.intro hb7.o.1 (stsl_kp E7.o.m hk hb7.o.2));have he8:Hid (Roomy els.length cape/\StsL (w.1.size+2<=·) V8 ae 0 els):=O ⟨hre,StsL.weak (fun q hq=>by have h1:V7.1.size<=q:=hq;have:=E7.o.sz;show w.1.size+2<=q;omega) hle⟩;have HS8:Hid (V8.cell? ⟨b,o+19,none⟩=some (.slice a NB cap)/\V8.cell? ⟨b,o+20,none⟩=some (.slice a' NE cap')):=O ⟨HC19.o V8 E8.o.k,HC20.o V8 E8.o.k⟩;apply F _ _ (fun _=>HS8.o)
 clear F K hk hm hre hle E7 hx7 hy7 hb7 HS7 HCE;refine oD 13 fun K F=>?_;refine wp_store_one (by kernel_rfl) (.tmp 44) (.tmp 37) rfl (w.1.size+1) 19 60 (.slice ab NB capb) _ rfl rfl rfl rfl E8.o.o (by simp[stC,hxc.o.1,hyc.o.1]) ?_;intro V9 k9 c9;rw[(stC_set hxc.o.1 hyc.o.1 (.slice ab NB capb) 0 false).1]at k9;have E9:=O (E8.o.setO k9 c9);have hT9:=O (And.intro (c9.exN (by omega) hx8.o) (And.intro (c9.exN (by omega) hy8.o) (And.intro (c9.stsN (by omega) hb8.o.2) (c9.stsN (by omega) he8.o.2))));apply F _ _ nofun;clear F K k9 c9 E8 hx8 hy8;refine oD 14 fun K F=>?_;go_simp;apply F _ _ nofun;clear F K;refine oD 15 fun K F=>?_
 refine wp_store_one (by kernel_rfl) (.tmp 45) (.tmp 43) rfl (w.1.size+1) 20 60 (.slice ae NE cape) _ rfl rfl rfl rfl E9.o.o (by simp[stC,hxc.o.1,hyc.o.1]) ?_;intro V10 k10 c10;rw[(stC_set hxc.o.1 hyc.o.1 (.slice ae NE cape) 0 false).2.1]at k10;have E10:=O (E9.o.setO k10 c10);have hT10:=O (And.intro (c10.exN (by omega) hT9.o.1) (And.intro (c10.exN (by omega) hT9.o.2.1) (And.intro (c10.stsN (by omega) hT9.o.2.2.1) (c10.stsN (by omega) hT9.o.2.2.2))));apply F _ _ nofun;clear F K k10 c10 E9 hT9;simp only[Act.put];refine dn ?_;go_wp2_with fail;refine U.o _ _ ?_;clear U KK;obtain⟨S,b9⟩:=eX (stC k l c0 s t xs ys (.slice ab NB capb) (.slice ae NE cape) id sl ot lo);have h6:=O b9
 have e1:Hid (S.length=25/\∀v∈S,v.oneCell'=true):=O (by rw[<-b9];exact stC_one hxc.o hyc.o);rw[b9]at E10;clear b9;have e8:=e1.o.1;go_wp2_with (first
  | (with_reducible refine l0 60 ?_;refine wpList_load_blk d9 g2 info64 rfl (.tmp 5) rfl (w.1.size+1) S rfl (O E10.o.o) e8 ?_)
  | (with_reducible refine s0 60 ?_;refine wpList_store_ch info64 rfl (.tmp 4) (.tmp 46) rfl w.1.size S _ rfl rfl E10.o.r hR0 e1.o ?_;intro W9 k9 c9;have X:=O (And.intro k9 c9);clear k9 c9)
 )
 have hl:=E10.o.lt;have hm9:Cpr W9 c mS mE sn #[]:=E10.o.m.ch X.o.2 hl;have hk9:Kp w W9 mS mE:=E10.o.k.to (X.o.2.below (Nat.le_refl _) (Below.refl _ _)) (Nat.le_refl _);have hcf:=HA.o.m.cellF hk9;have hr9:W9.rangeF b o (stC k l c0 s t cx cy (.slice a body.length cap) (.slice a' els.length cap') id sl ot lo):=fun t v hv=>hcf _ _ _ (HA.o.r t v hv);have hx9:StL (fun _=>True) W9 (stC k l c0 s t cx cy (.slice a body.length cap) (.slice a' els.length cap') id sl ot lo) (.mk k l c0 s t x y body els id sl ot lo):=HA.o.t.keep fun b o v _=>hcf b o v;have hK9:=HA.o.k.of hcf;obtain⟨ck,hmap⟩:=hm9.s;rw[<-HSN.o]at hmap
 refine end_blkB ptrS map229 d9 g2 info64 X.o.1 e8 rfl rfl rfl hmap (rangeF_pt hr9 (by rw[hx9.cells.1];decide)) hK9.keys (hK9.none hr9 hx9 (Nat.le_refl _)) fun W' hk' hm'=>?_;refine⟨⟨S,rfl,?_⟩,hk9.trans hk'.widen,hm9.putS HA.o.ne hk' hm'⟩;rw[<-h6.o,<-HNB.o,<-HNE.o];have b7:∀c,w.1.size+2<=c->w.1.size<=c:=fun c V=>by omega
 have ctr:∀ (b o:Nat) (v:Value),w.1.size+2<=b->V10.cellF ⟨b,o,none⟩=some v->W'.cellF ⟨b,o,none⟩=some v:=fun b o v hb hv=>by
  have h1:W9.cellF ⟨b,o,none⟩=some v:=by rw[X.o.2.cellF (by omega)];exact hv
  exact kp_cell hk' (hm9.ne h1).1 (hm9.ne h1).1 h1
 unfold StL;exact⟨xs,ys,ab,ae,capb,cape,rfl,ExL.weak b7 (hT10.o.1.keep ctr),ExL.weak b7 (hT10.o.2.1.keep ctr),hb8.o.1,StsL.weak b7 (StsL.keep ctr hT10.o.2.2.1),he8.o.1,StsL.weak b7 (StsL.keep ctr hT10.o.2.2.2)⟩
theorem cst_step{mS mE:Nat}{es:Array MapEntry}{o:Nat}{cs:List Value}{x:St}(hs:x.szl)(H:CsA w c mS mE es b o cs x)
  (IH:∀z:St,SizeOf.sizeOf z<SizeOf.sizeOf x->z.szl->∀ (W:World) (b o:Nat) (ds:List Value) (en:Array MapEntry),CsA W c mS mE en b o ds z->Calls Tryz.prog 152 #[Pt c,.pointer (some ⟨b,o,none⟩)] W (CsR W c mS mE en z)):
  Calls Tryz.prog 152 #[Pt c,.pointer (some ⟨b,o,none⟩)] w (CsR w c mS mE es x):=by
 obtain⟨k,l,c0,s,t,x,y,body,els,id,sl,ot,lo⟩:=x;obtain⟨f2,e1,d9⟩:=under60;obtain⟨i8,z8,f6,g2,g5⟩:=zero60;have hx:=H.t;unfold StL at hx;obtain⟨cx,cy,a,a',cap,cap',hcs,hX,hY,hrb,hB,hre,hE⟩:=hx;have hcs':cs=stC k l c0 s t cx cy (.slice a body.length cap) (.slice a' els.length cap') id sl ot lo:=hcs;clear hcs;have hl7:cs.length=25:=H.t.cells.1;have hone:=O H.t.cells.2;have HX:=O hX;have HY:=O hY;have HB:=O (And.intro hrb hB);have HE:=O (And.intro hre hE);have HZ:=O hs;have HI:=O IH;have HCS:=O hcs';have HLT:Hid (c<w.1.size/\mS<w.1.size/\mE<w.1.size):=O ⟨H.m.b.lt,H.m.ls,H.m.le⟩;have HA:=O H;clear hX hY hrb hB hre hE hs IH H hcs';refine calls_of_wp_b Tryz.func152 rfl ?_
 simp only[Tryz.ntmps152,List.size_toArray,List.length_cons,List.length_nil,Nat.reduceAdd,Nat.reduceSub,Array.replicate_succ,Array.replicate_zero,List.push_toArray,List.append_toArray,List.nil_append,List.cons_append];refine wk fun KK U=>?_;go_wp2_with (first
  | (with_reducible refine aa 4 (.alloc 60) ?_;refine wpList_alloc_blk f6 g2 g5 rfl rfl w.1.size rfl ?_;intro W1 k1 b1 s1;have K1:=O k1;have B1:=O b1;clear k1 b1)
 )
 refine U.o _ _ ?_;clear U KK;have C1:=O (HA.o.m.below B1.o);have c1:W1.cell? ⟨c,0,none⟩=some (.map (some mS)):=by rw[C1.o.b.cell];rfl
 have hcf:∀ (b o:Nat) (v:Value),w.cellF ⟨b,o,none⟩=some v->W1.cellF ⟨b,o,none⟩=some v:=fun b o v hv=>below_cell B1.o b o v hv;have hr1:W1.rangeF b o cs:=fun t v hv=>hcf _ _ _ (HA.o.r t v hv);have hx1:StL (fun _=>True) W1 cs (.mk k l c0 s t x y body els id sl ot lo):=HA.o.t.keep fun b o v _=>hcf b o v;have HK1:=O (HA.o.k.of hcf);have HP1:=O (rangeF_pt hr1 (by rw[hl7];decide));have HN1:=O (HK1.o.none hr1 hx1 (Nat.le_refl _));obtain⟨ck,hm1⟩:=C1.o.s;have HM1:=O hm1;clear hcf hr1 hx1 hm1;refine wk fun KK U=>?_;go_wp2_with (first
  | ((with_reducible refine ah (.mapUpdate 229 (.tmp 9) (.tmp 10) (.tmp 11)) ?_);refine wpList_update_ptr rfl (.tmp 9) (.tmp 10) (.tmp 11) rfl ptrS map229 mS ⟨b,o,none⟩ (.agg #[]) rfl rfl rfl HM1.o HP1.o HK1.o.keys HN1.o ?_;intro W2 k2 m2 s2;have K2:=O k2;have M2:=O m2;have S2:=O s2;clear k2 m2 s2)
 )
 refine U.o _ _ ?_;clear U KK c1;have C2:=O (C1.o.putS HA.o.ne K2.o M2.o);have R2:Hid (Blk W2 w.1.size 60 zStC):=O (K1.o.kp K2.o (by have:=HLT.o;omega) (by have:=HLT.o;omega));have KP2:Hid (Kp w W2 mS mE):=O ((Kp.below B1.o).trans K2.o.widen);have c1:W2.cell? ⟨c,0,none⟩=some (.map (some mS)):=by rw[C2.o.b.cell];rfl
 have Z2:Hid (W2.1.size=w.1.size+1):=O (by rw[S2.o,s1]);clear K1 B1 C1 HK1 HP1 HN1 HM1 K2 M2 S2 s1;refine wk fun KK U=>?_;go_wp2_with fail;refine U.o _ _ ?_;clear U KK c1;have HR2:Hid (W2.rangeAt b o cs):=O (World.rangeF_at fun t v hv=>HA.o.m.cellF KP2.o _ _ _ (HA.o.r t v hv));refine wk fun KK U=>?_;go_wp2_with (first
  | (with_reducible refine l1 19 60 ?_;refine wpList_load_mid rfl 60 (.tmp 18) rfl b o rfl cs f2 HR2.o e1 d9 (by rw[hl7];exact info64) ?_)
  | (with_reducible refine aa 5 (.alloc 60) ?_;refine wpList_alloc_blk f6 g2 g5 rfl rfl (w.1.size+1) Z2.o ?_;intro W3 k3 b3 s3;have K3:=O k3;have B3:=O b3;clear k3 b3 s3)
  | (with_reducible refine s0 60 ?_;refine wpList_store_ch info64 rfl (.tmp 5) (.tmp 19) rfl (w.1.size+1) cs _ rfl rfl K3.o rfl ⟨hl7,hone.o⟩ ?_;intro W4 k4 c4;have K4:=O k4;have B4:Hid (bL W2 W4):=O (c4.below (by rw[Z2.o];exact Nat.le_refl _) B3.o);clear k4 c4 K3 B3)
 )
 refine U.o _ _ ?_;clear U KK;have E4:Hid (Ysc w c mS mE (es.push ⟨.pointer (some ⟨b,o,none⟩),.agg #[],ck⟩) (stC k l c0 s t cx cy (.slice a body.length cap) (.slice a' els.length cap') id sl ot lo) zStC W4):=O ⟨KP2.o.trans (Kp.below B4.o),C2.o.below B4.o,R2.o.below B4.o,by have h:=K4.o;rw[HCS.o]at h;exact h,HLT.o⟩;have HA2:=HA.o;rw[HCS.o]at HA2;exact cst_tail rfl (O HA2) HX HY HB HE HZ HI E4
theorem cst_all:∀ (m:Nat) (x:St),SizeOf.sizeOf x<m->x.szl->∀ {w:World} {c mS mE:Nat} {es:Array MapEntry} {b o:Nat} {cs:List Value},CsA w c mS mE es b o cs x->Calls Tryz.prog 152 #[Pt c,.pointer (some ⟨b,o,none⟩)] w (CsR w c mS mE es x)
 |0,_,h,_=>absurd h (Nat.not_lt_zero _)
 |m+1,x,h,hs=>fun H=>cst_step hs H fun z hz hsz _ _ _ _ _ H2=>cst_all m z (by omega) hsz H2
theorem newC_any(w:World):Calls Tryz.prog 124 #[] w fun e w'=>bL w w'/\∃c mS mE,e= .returned (Pt c)/\mS≠mE/\w.1.size<=mS/\w.1.size<=mE/\Cpr w' c mS mE #[] #[]:=by
 have h1:∀W:World,(Instr.makeMap 229 none).run Tryz.prog W= .ok (.map (some W.1.size)) (W.alloc (.map #[] 0)):=fun W=>by kernel_rfl
 have h2:∀W:World,(Instr.makeMap 230 none).run Tryz.prog W= .ok (.map (some W.1.size)) (W.alloc (.map #[] 0)):=fun W=>by kernel_rfl
 obtain⟨W1,hW1⟩:=eX (w.alloc (.map #[] 0));obtain⟨W2,hW2⟩:=eX (W1.alloc (.map #[] 0));obtain⟨g1,hg1⟩:=eX w.1.size;obtain⟨g2,hg2⟩:=eX W1.1.size;have m1:=h1 w;have m2:=h2 W1;rw[hW1,hg1]at m1;rw[hW2,hg2]at m2;clear h1 h2;have H1:Hid (W1.1[g1]? =some (.map #[] 0)/\bL w W1):=O ⟨by rw[<-hW1,<-hg1];exact World.alloc_heap_new _ _,by rw[<-hW1];exact(Below.refl _ w).alloc (Nat.le_refl _) _⟩;have H2:Hid (W2.1[g2]? =some (.map #[] 0)/\bL W1 W2):=O ⟨by rw[<-hW2,<-hg2];exact World.alloc_heap_new _ _,by rw[<-hW2];exact(Below.refl _ W1).alloc (Nat.le_refl _) _⟩;have HG:Hid (w.1.size=g1/\W1.1.size=g2):=O ⟨hg1,hg2⟩;clear hW1 hW2 hg1 hg2;go_enter Tryz.func124,Tryz.ntmps124;refine wk fun KK U=>?_;go_wp2_with fail
 refine U.o _ _ ?_;clear U KK;go_wp2_with (first
  | (with_reducible refine aa 4 (.box 232 (.tmp 3)) ?_;refine wpList_box_blk z (.tmp 3) z [.map (some g1),.map (some g2)] z W2.1.size z ?_;intro W3 k3 b3 s3;have K3:=O k3;have B3:=O b3;clear k3 b3 s3)
 )
 go_ret;have hlt:g1<W1.1.size:=(Array.getElem?_eq_some_iff.1 H1.o.1).1;have e2:=H2.o.2.block g1 hlt;have e3:=B3.o.block g1 (Nat.lt_of_lt_of_le hlt H2.o.2.size);have e4:=B3.o.block g2 (Array.getElem?_eq_some_iff.1 H2.o.1).1;have hs:=HG.o;have hs1:=H1.o.2.size;have b2:=H1.o.2.trans (H2.o.2.mono H1.o.2.size);exact⟨b2.trans (B3.o.mono b2.size),W2.1.size,g1,g2,z,by omega,by omega,by omega,K3.o,⟨0,e3.trans (e2.trans H1.o.1)⟩,⟨0,e4.trans H2.o.1⟩⟩
end Go.Proofs.YtgppcdfgdaggjaaGreatDoor
