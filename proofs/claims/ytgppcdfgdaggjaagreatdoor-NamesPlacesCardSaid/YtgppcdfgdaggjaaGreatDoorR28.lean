/- Texts laid together. No condition but what each law says. -/
import Derived.Test.YtgppcdfgdaggjaaGreatDoorR23
set_option maxRecDepth 100000
set_option maxHeartbeats 8000000
namespace Go.Proofs.YtgppcdfgdaggjaaGreatDoor
open Go.RowKit Go.Maps
variable {W w:World}{l2 l3:List Value}{b c g j n n2:Nat}{A:Act}{u v v0 v1 v2 v3 v4 v5:Value}{s t:ByteArray}{p0 p1:Int}{a a0:Option Addr}
def PgRL(ok:Nat->Prop)(w:World)(P:Pg)(ps:List Value):Prop:=∃v0 v1 v4 v5 n0 n1 n2 n3 n4,ps=pgC P v0 v1 v4 v5 n0 n1 n2 n3 n4 []/\PgL ok w P v0 v1 v4 v5 n0 n1 n2 n3 n4
def FOk(w:World)(R:Pg× (Int×Int)×Int)(e:Ending)(w':World):Prop:=(∃ps,e= .returned (.tuple #[.agg ps.toArray,.agg #[.int .i64 R.2.1.1,.int .i64 R.2.1.2],.int .i64 R.2.2])/\PgRL (w.1.size<=·) w' R.1 ps)/\Below w.1.size w w'
def zPgC:List Value:=[.slice none 0 0,.slice none 0 0,.int .i64 0,.int .i64 0,.slice none 0 0,.slice none 0 0,.int .i64 0,.int .i64 0,.slice none 0 0,.slice none 0 0,.slice none 0 0,.slice none 0 0,.slice none 0 0]
theorem zero30:∃i z,Tryz.prog.info? 30=some i/\i.zero=some z/\z.cells=zPgC.toArray:=infoZ (by kernel_rfl)
theorem info30:(Tryz.prog.info? 30).map (·.size)=some 13:=by kernel_rfl
theorem under30:∃d,Tryz.prog.underlying 30=some d/\d.isRow=true:=by
 have h:(Tryz.prog.underlying 30).map (·.isRow)=some true:=by kernel_rfl
 obtain⟨d,j,g⟩:=Option.map_eq_some_iff.1 h;exact⟨d,j,g⟩
theorem zero32:∃i z,Tryz.prog.info? 32=some i/\i.zero=some z/\z.cells=[Value.int .i64 0,.int .i64 0].toArray:=infoZ (by kernel_rfl)
theorem info32a:(Tryz.prog.info? 32).map (·.size)=some 2:=by kernel_rfl
theorem under32a:∃d,Tryz.prog.underlying 32=some d/\d.isRow=true:=by
 have h:(Tryz.prog.underlying 32).map (·.isRow)=some true:=by kernel_rfl
 obtain⟨d,j,g⟩:=Option.map_eq_some_iff.1 h;exact⟨d,j,g⟩
theorem pgRL_zero(ok:Nat->Prop)(w:World):PgRL ok w zPg zPgC:=⟨_,_,_,_,_,_,_,_,_,z,⟨Ro.nil _ _ _,Ro.nil _ _ _,Ro.nil _ _ _,Ro.nil _ _ _,Ro.nil _ _ _,Ro.nil _ _ _,Ro.nil _ _ _,Ro.nil _ _ _,Ro.nil _ _ _⟩⟩
theorem PgRL.keep{ok:Nat->Prop}{w':World}{P:Pg}(E:∀ (b o:Nat) (u:Value),ok b->w.cellF ⟨b,o,none⟩=some u->w'.cellF ⟨b,o,none⟩=some u)(h:PgRL ok w P l2):PgRL ok w' P l2:=by obtain⟨G,C,j,g,A,n1,n2,n3,n4,F,D⟩:=h;exact⟨G,C,j,g,A,n1,n2,n3,n4,F,D.keep E⟩
theorem PgRL.weak{ok ok':Nat->Prop}{P:Pg}(E:∀b,ok b->ok' b)(h:PgRL ok w P l2):PgRL ok' w P l2:=by obtain⟨G,C,j,g,A,n1,n2,n3,n4,F,D⟩:=h;exact⟨G,C,j,g,A,n1,n2,n3,n4,F,D.weak E⟩
theorem PgRL.cells{ok:Nat->Prop}{P:Pg}(h:PgRL ok w P l2):l2.length=13/\∀v∈l2,v.oneCell'=true:=by obtain⟨E,D,A,j,C,n1,n2,n3,n4,rfl,h⟩:=h;refine⟨z,fun v g=>?_⟩;simp only[pgC,List.mem_cons,List.not_mem_nil,or_false]at g;rcases g with rfl|rfl|rfl|rfl|rfl|rfl|rfl|rfl|rfl|rfl|rfl|rfl|rfl;all_goals first|rfl|exact h.vars.one|exact h.arrays.one|exact h.chans.one|exact h.threads.one|exact h.nv.one|exact h.na.one|exact h.nm.one|exact h.nc.one|exact h.nh.one
theorem end_cct{T g:TypeId}{d j:TypeDesc}(V:Tryz.prog.underlying T=some d)(E:d.isRow=true)(H:(Tryz.prog.info? T).map (·.size)=some n)(C:Tryz.prog.underlying g=some j)(U:j.isRow=true)(X:(Tryz.prog.info? g).map (·.size)=some n2){w:Func}{R:Ending->World->Prop}{b2:Nat}{s s2 u:Tmp}{cs:List Value}(h:Blk W b T cs)(Y:cs.length=n)(M:Blk W b2 g l2)(D:l2.length=n2)(K:w.results= #[.cell s T,.cell s2 g,.tmp u])
  (Q:A.tmps.getD s undef=Pt b)(G:A.tmps.getD s2 undef=Pt b2)(Z:A.tmps.getD u undef=v)(hd:A.defers=[])(hR:R (.returned (.tuple #[.agg cs.toArray,.agg l2.toArray,v])) W):bodyPost Tryz.prog w R .ret A W:=by
 have J:A.tmps[s]?.getD undef=Pt b:=by rw[<-Q];simp
 have S:A.tmps[s2]?.getD undef=Pt b2:=by rw[<-G];simp
 have F:A.tmps[u]?.getD undef=v:=by rw[<-Z];simp
 have a0:=run_loadVar_mid (P:=Tryz.prog) W b 0 T cs d h.whole V E (by rw[Y];exact H);have N:=run_loadVar_mid (P:=Tryz.prog) W b2 0 g l2 j M.whole C U (by rw[D];exact X);refine bodyPost_ret (v:= .tuple #[.agg cs.toArray,.agg l2.toArray,v]) ?_ hd hR;simp[results,K,J,S,F,asAddr,a0,N]
theorem two_one(a b:Int):[Value.int .i64 a,.int .i64 b].length=2/\∀v∈ [Value.int .i64 a,.int .i64 b],v.oneCell'=true:=⟨z,fun v hv=>by simp only[List.mem_cons,List.not_mem_nil,or_false]at hv;rcases hv with rfl|rfl<;>rfl⟩
theorem grow_blk{J:Type}{E:El J}{B:Nat}{l:List J}(h:Grow E B w v l)(a1:0<l.length)(_a2:0<E.sz):∃g cap C,v= .slice (some ⟨g,0,none⟩) l.length cap/\B<=g/\Blk w g E.ty C/\Roomy l.length cap/\l.length*E.sz<=C.length/\∀j x,l[j]? =some x->∃cs,E.L (fun c=> (B<=c/\c≠g)/\c<w.1.size) w cs x/\∀t,t<E.sz->C[j*E.sz+t]? =cs[t]? :=by
 have M:=h.form;obtain⟨cells,h1,V,H⟩:=h;rcases V.2 with ⟨rfl,h4⟩|⟨g,cap,F,rfl,h5,h6,W,h8,X,Z⟩
 .omega
 .have hR:Roomy l.length cap:=by obtain⟨a,c,Q,K⟩:=M;cases Q;exact K
  have S:l.length*E.sz<=F.toList.length:=by
   have D:F.toList.length=cap*E.sz:=by simpa using X
   rw[D];exact Nat.mul_le_mul_right _ W
  refine⟨g,cap,F.toList,z,h5,by unfold Blk;simpa using h6,hR,S,fun j x G=>?_⟩;have hj:=(List.getElem?_eq_some_iff.1 G).1;have hL:=H j cells[j] x (List.getElem?_eq_getElem (by omega)) G;refine⟨cells[j],E.weak (fun c A=>⟨⟨A.1.1,fun e=>A.1.2 (by rw[e];rfl)⟩,A.2⟩) hL,fun t R=>?_⟩;have a0:∀c∈cells,c.length=E.sz:=fun c A=>by obtain⟨i,N,rfl⟩:=List.mem_iff_getElem.1 A;exact(E.cells (H i _ _ (List.getElem?_eq_getElem N) (List.getElem?_eq_getElem (by omega)))).1
  have U:=flatten_at cells j t cells[j] a0 (List.getElem?_eq_getElem (by omega)) R;rw[<-U,<-Z,List.getElem?_take];have Y:j*E.sz+t<l.length*E.sz:=by have D:(j+1)*E.sz<=l.length*E.sz:=Nat.mul_le_mul_right _ hj;rw[Nat.add_mul]at D;omega
  rw[if_pos Y]
def textR(F:List De->Pg× (Int×Int)×Int)(s:ByteArray):Pg× (Int×Int)×Int:=if (parseR s).2.2≠0 then (zPg,(parseR s).2.1,(parseR s).2.2) else F (parseR s).1
def Nm.ev(x:Nm):Value:= .agg #[.int .i64 (x.kind:Int),.int .i64 (x.slot:Int)]
def entN(p:Nm×Nat):MapEntry:=⟨.string p.1.text,p.1.ev,p.2⟩
def MpN(w:World)(g:Nat)(L:List Nm):Prop:=∃ (es:List (Nm×Nat)) (n:Nat),w.1[g]? =some (.map (es.map entN).toArray n)/\es.map (·.1)=L
theorem same_str(a b:ByteArray):Instr.sameNow .string (.string a) (.string b)=some (decide (a=b)):=by
 obtain⟨r,j,g⟩:=MapKept.sameNow_of_keys (d:= .string) (a:= .string a) (b:= .string b) (by simp[MapKept.IsKey]) (by simp[MapKept.IsKey]);rw[j];by_cases h:a=b
 .rw[g.2 (by rw[h])];simp[h]
 .cases r
  .simp[h]
  .exact absurd (Value.string.inj (g.1 z)) h
def idxN(s:ByteArray):List Nm->Nat->Option (Nat×Nm)
 | [],_=>none
 |x::r,i=>if x.text=s then some (i,x) else idxN s r (i+1)
theorem find_nm(s:ByteArray):∀ (g:List (Nm×Nat)) (i:Nat),Instr.findNow .string (.string s) (g.map entN) i=some ((idxN s (g.map (·.1)) i).map fun p=> (p.1,p.2.ev))
 | [],i=>rfl
 |p::r,i=>by
  by_cases h:p.1.text=s
  .simp[Instr.findNow,entN,same_str,idxN,h]
  .have j:¬s=p.1.text:=fun e=>h e.symm
   simp only[List.map_cons,Instr.findNow,entN,same_str,idxN,h,j,decide_false,if_false]
   exact find_nm s r (i+1)
theorem idx_lk(s:ByteArray):∀ (L:List Nm) (i:Nat),(idxN s L i).map (·.2)=lkN L s
 | [],i=>rfl
 |x::r,i=>by
  unfold idxN lkN
  by_cases h:x.text=s
  .simp[h]
  .simp only[h,if_false,decide_false,List.find?_cons]
   exact idx_lk s r (i+1)
theorem under97:Tryz.prog.underlying 97=some (.map 9 104):=by kernel_rfl
theorem under9:Tryz.prog.underlying 9=some .string:=by kernel_rfl
theorem erase_map{g w:Type}(f:g->w):∀ (l:List g) (j:Nat),(l.map f).eraseIdx j=(l.eraseIdx j).map f
 | [],j=>by simp
 |x::l,0=>rfl
 |x::l,j+1=>by
  show f x::(l.map f).eraseIdx j=f x::(l.eraseIdx j).map f
  rw[erase_map f l j]
def lkV(r:Option Nm):Value:=match r with
 |none=> .agg #[.int .i64 0,.int .i64 0]
 |some x=>x.ev
theorem look_nm{L:List Nm}(h:MpN w g L)(s:ByteArray):
  (Instr.lookup 97 (.map (some g)) (.string s) true).run Tryz.prog w= .ok (.tuple #[lkV (lkN L s),.bool (lkN L s).isSome]) w:=by
 obtain⟨j,n,D,rfl⟩:=h;have C:MapKept.IsKey .string (.string s):=by simp[MapKept.IsKey]
 have A:Instr.findNow .string (.string s) (j.map entN).toArray.toList 0=some ((idxN s (j.map (·.1)) 0).map fun p=> (p.1,p.2.ev)):=by simpa using find_nm s j 0
 rw[<-idx_lk s (j.map (·.1)) 0];rcases hx:idxN s (j.map (·.1)) 0 with _|p
 .rw[hx]at A;simp[Instr.lookup,run_underlying under97,MapKept.run_getObj_map D,MapKept.run_checkKey under9 C,MapKept.run_findKey under9 A,Result.andThen,lkV,hx]
 .rw[hx]at A;simp[Instr.lookup,run_underlying under97,MapKept.run_getObj_map D,MapKept.run_checkKey under9 C,MapKept.run_findKey under9 A,Result.andThen,lkV,hx]
structure ChM (b:Nat) (w w':World):Prop where
 os:w'.os=w.os
 tape:w'.tape=w.tape
 output:w'.output=w.output
 size:w'.1.size=w.1.size
 block:∀k,k≠b->w'.1[k]? =w.1[k]?
theorem chM_put{o A:Obj}(h:w.1[g]? =some o):ChM g w {w with heap:=w.1.setIfInBounds g A}:=⟨z,z,z,by simp,fun k j=> (MapKept.heap_set h).2 k j⟩
theorem put_nm{L:List Nm}(h:MpN w g L)(x:Nm)(C:lkN L x.text=none):
  ∃W,(Instr.mapUpdate 97 (.map (some g)) (.string x.text) x.ev).run Tryz.prog w= .ok () W/\MpN W g (L++[x])/\ChM g w W:=by
 obtain⟨j,n,A,rfl⟩:=h;have E:MapKept.IsKey .string (.string x.text):=by simp[MapKept.IsKey]
 rw[<-idx_lk x.text (j.map (·.1)) 0]at C;have D:Instr.findNow .string (.string x.text) (j.map entN).toArray.toList 0=some none:=by have:=find_nm x.text j 0;rw[Option.map_eq_none_iff.1 C]at this;simpa using this
 refine⟨{w with heap:=w.1.setIfInBounds g (.map ((j++[(x,n)]).map entN).toArray (n+1))},?_,⟨j++[(x,n)],n+1,(MapKept.heap_set A).1,by simp⟩,chM_put A⟩;simp[Instr.mapUpdate,run_underlying under97,MapKept.run_getObj_map A,MapKept.run_checkKey under9 E,MapKept.run_findKey under9 D,MapKept.run_setObj_map _ A,Result.andThen,entN]
theorem del_idx(s:ByteArray):∀ (L:List Nm) (i:Nat),match idxN s L i with
  |none=>L.eraseP (fun x=>decide (x.text=s))=L
  |some (j,_)=>i<=j/\j-i<L.length/\L.eraseP (fun x=>decide (x.text=s))=L.eraseIdx (j-i)
 | [],i=>rfl
 |x::r,i=>by
  unfold idxN
  by_cases h:x.text=s
  .simp[h]
  .simp only[h,if_false]
   have g:=del_idx s r (i+1)
   rcases hr:idxN s r (i+1) with _|⟨j,y⟩
   .rw[hr]at g
    simp only at g
    simp[h,g]
   .rw[hr]at g
    obtain⟨C,A,w⟩:=g
    refine⟨by omega,by simp;omega,?_⟩
    rw[show j-i=(j- (i+1))+1 by omega]
    simp[h,w]
theorem del_nm{L:List Nm}(h:MpN w g L)(s:ByteArray):
  ∃W,(Builtin.delete_ #[97,9] 0 #[.map (some g),.string s]).run Tryz.prog w= .ok (.tuple #[]) W/\MpN W g (L.eraseP fun x=>decide (x.text=s))/\ChM g w W:=by
 obtain⟨A,n,C,rfl⟩:=h;have F:MapKept.IsKey .string (.string s):=by simp[MapKept.IsKey]
 have D:Instr.findNow .string (.string s) (A.map entN).toArray.toList 0=some ((idxN s (A.map (·.1)) 0).map fun p=> (p.1,p.2.ev)):=by simpa using find_nm s A 0
 have hd:=del_idx s (A.map (·.1)) 0;rcases hx:idxN s (A.map (·.1)) 0 with _|⟨j,y⟩
 .rw[hx]at D hd;simp only at hd;refine⟨{w with heap:=w.1.setIfInBounds g (.map (A.map entN).toArray n)},?_,⟨A,n,(MapKept.heap_set C).1,hd.symm⟩,chM_put C⟩;simp[Builtin.delete_,run_underlying under97,MapKept.run_getObj_map C,MapKept.run_checkKey under9 F,MapKept.run_findKey under9 D,MapKept.run_setObj_map _ C,Result.andThen]
 .rw[hx]at D hd;obtain⟨-,-,E⟩:=hd;simp only[Nat.sub_zero]at E;refine⟨{w with heap:=w.1.setIfInBounds g (.map ((A.eraseIdx j).map entN).toArray n)},?_,⟨A.eraseIdx j,n,(MapKept.heap_set C).1,by rw[E,erase_map]⟩,chM_put C⟩;simp[Builtin.delete_,run_underlying under97,MapKept.run_getObj_map C,MapKept.run_checkKey under9 F,MapKept.run_findKey under9 D,MapKept.run_setObj_map _ C,Result.andThen,erase_map]
section
variable {w w' w0:World} {b c:Nat}
theorem ChM.blk(h:ChM b w w')(j:c≠b){T:TypeId}{C:List Value}(g:Blk w c T C):Blk w' c T C:=g.of (h.block c j)
theorem ChM.below(h:ChM b w w'){B:Nat}(A:B<=b)(g:Below B w0 w):Below B w0 w':=g.trans ⟨h.os,h.tape,h.output,Nat.le_of_eq h.size.symm,fun k j=>h.block k (by omega)⟩
theorem ChM.kp(h:ChM b w w'):Kp w w' b b:=⟨h.os,h.tape,h.output,Nat.le_of_eq h.size.symm,fun k _ g _=>h.block k g⟩
theorem Ch.kp(h:Ch b w w'):Kp w w' b b:=by obtain⟨o,vs,rfl⟩:=h;exact Kp.setCellsA vs o (Kp.refl w b b)
end
def flawN(f:Flw):PanicEntry:={v:= .iface 95 (.agg #[.int .i64 f.1.1,.int .i64 f.1.2,.int .i64 f.2]),recovered:=false}
structure PF where
 L:List Nm
 ce:Int
 n:Nat
 loc:Nat
 mo:Nat
def wE(k:Int)(a b:Int)(p q:Bool)(n:Nat):MapEntry:=⟨.int .i64 k,.agg #[.int .i64 a,.int .i64 b,.bool p,.bool q],n⟩
def wantEs:List MapEntry:=[wE 2 1 0 true false 0,wE 3 2 0 false false 1,wE 6 3 0 false false 2,wE 7 3 0 false false 3,wE 8 4 3 false false 4,wE 9 4 0 false false 5,wE 10 4 0 false false 6,wE 11 5 0 false false 7,wE 12 5 1 false true 8,wE 13 6 0 false false 9]
def pfT(g h:Nat)(D:PF):List Value:=[.map (some g),.map (some h),.int .i64 D.ce,.int .i64 (D.n:Int),.int .i64 (D.loc:Int),.int .i64 (D.mo:Int)]
structure Fi (w:World) (F g h:Nat) (pc:List Value) (D:PF):Prop where
 lp:pc.length=13
 f:Blk w F 101 (pc++pfT g h D)
 m:MpN w g D.L
 wm:w.1[h]? =some (.map wantEs.toArray 10)
 fg:F≠g
 fh:F≠h
 gh:g≠h
section
variable {w w':World} {F g h b:Nat} {pc:List Value} {D:PF}
theorem Fi.at(H:Fi w F g h pc D)(j:Nat):w.cell? ⟨F,13+j,none⟩=(pfT g h D)[j]? :=by rw[H.f.cell,List.getElem?_append_right (by rw[H.lp];omega),H.lp,Nat.add_sub_cancel_left]
theorem Fi.c13(H:Fi w F g h pc D):w.cell? ⟨F,13,none⟩=some (.map (some g)):=H.at 0
theorem Fi.c14(H:Fi w F g h pc D):w.cell? ⟨F,14,none⟩=some (.map (some h)):=H.at 1
theorem Fi.c15(H:Fi w F g h pc D):w.cell? ⟨F,15,none⟩=some (I D.ce):=H.at 2
theorem Fi.c16(H:Fi w F g h pc D):w.cell? ⟨F,16,none⟩=some (I D.n):=H.at 3
theorem Fi.c17(H:Fi w F g h pc D):w.cell? ⟨F,17,none⟩=some (I D.loc):=H.at 4
theorem Fi.c18(H:Fi w F g h pc D):w.cell? ⟨F,18,none⟩=some (I D.mo):=H.at 5
theorem MpN.lt{L:List Nm}(H:MpN w g L):g<w.1.size:=by obtain⟨A,n,j,-⟩:=H;exact(Array.getElem?_eq_some_iff.1 j).1
theorem Fi.lts(H:Fi w F g h pc D):F<w.1.size/\g<w.1.size/\h<w.1.size:=⟨H.f.lt,H.m.lt,(Array.getElem?_eq_some_iff.1 H.wm).1⟩
theorem MpN.of{L:List Nm}(H:MpN w g L)(C:w'.1[g]? =w.1[g]?):MpN w' g L:=by obtain⟨j,n,E,A⟩:=H;exact⟨j,n,C.trans E,A⟩
theorem Fi.of(H:Fi w F g h pc D)(C:w'.1[F]? =w.1[F]?)(j:w'.1[g]? =w.1[g]?)(A:w'.1[h]? =w.1[h]?):Fi w' F g h pc D:=⟨H.lp,H.f.of C,H.m.of j,A.trans H.wm,H.fg,H.fh,H.gh⟩
theorem Fi.below(H:Fi w F g h pc D){B:Nat}(j:Below B w w')(C:F<B)(A:g<B)(E:h<B):Fi w' F g h pc D:=H.of (j.block _ C) (j.block _ A) (j.block _ E)
theorem Fi.up(H:Fi w F g h pc D)(j:bL w w'):Fi w' F g h pc D:=H.below j H.lts.1 H.lts.2.1 H.lts.2.2
theorem Fi.ch(H:Fi w F g h pc D)(E:Ch b w w')(A:F≠b)(j:g≠b)(C:h≠b):Fi w' F g h pc D:=by obtain⟨o,vs,rfl⟩:=E;exact H.of (heap_setCells A _ _ _) (heap_setCells j _ _ _) (heap_setCells C _ _ _)
theorem set_right{A:Type}:∀ (l r:List A) (j:Nat) (v:A),(l++r).set (l.length+j) v=l++r.set j v
 | [],r,j,v=>by simp
 |x::l,r,j,v=>by rw[List.cons_append,List.length_cons,show l.length+1+j=(l.length+j)+1 by omega,List.set_cons_succ,set_right l r j v,List.cons_append]
theorem Fi.set(H:Fi w F g h pc D)(j:Nat)(v:Value)(D':PF)(C:D'.L=D.L)(E:(pfT g h D).set j v=pfT g h D'):Fi (w.setCell ⟨F,13+j,none⟩ v) F g h pc D':=by have A:=H.f.set1 (13+j) v;rw[show 13+j=pc.length+j by rw[H.lp],set_right,E]at A;rw[show 13+j=pc.length+j by rw[H.lp]];exact⟨H.lp,A,by rw[C];exact H.m.of (Below.heap_setCell w ⟨F,pc.length+j,none⟩ v g (Ne.symm H.fg)),(Below.heap_setCell w ⟨F,pc.length+j,none⟩ v h (Ne.symm H.fh)).trans H.wm,H.fg,H.fh,H.gh⟩
theorem Fi.map(H:Fi w F g h pc D)(j:ChM g w w'){L:List Nm}(A:MpN w' g L):Fi w' F g h pc {D with L:=L}:=⟨H.lp,j.blk H.fg H.f,A,(j.block _ (Ne.symm H.gh)).trans H.wm,H.fg,H.fh,H.gh⟩
end
def PRt{α:Type}(w:World)(R:Except Flw α)(ok:α->Ending->World->Prop)(e:Ending)(w':World):Prop:=Below w.1.size w w'/\match R with
 | .error f=>e= .panicked [flawN f]
 | .ok x=>ok x e w'
theorem plocal_any(k s:Int)(w:World):Calls Tryz.prog 151 #[.agg #[I k,I s]] w fun e w'=>e= .returned (.bool (decide (k=0)))/\bL w w':=by go_in;go_wp2;go_ret;exact⟨z,(Below.refl _ w).alloc rl _⟩
theorem pbound_any(n a b:Int)(p:Int×Int)(w:World):Calls Tryz.prog 79 #[I n,I a,I b,.agg #[I p.1,I p.2]] w fun e w'=>bL w w'/\e=(if n<a∨b<n then .panicked [flawN (p,134)] else .returned (.tuple #[])):=by
 obtain⟨R,g⟩:=eX ((if n<a∨b<n then Ending.panicked [flawN (p,134)] else .returned (.tuple #[])));rw[g];have A:=O g;clear g;obtain⟨l,c⟩:=p;have j:=O ((Below.refl w.1.size w).alloc rl (.cells #[I l,I c] 32));go_in;go_wp2;all_goals have g:=A.o
 .rw[if_pos (by omega)]at g;exact⟨z,j,g⟩
 .rw[if_neg (by omega)]at g;go_end0;exact⟨j,g⟩
 .rw[if_pos (by omega)]at g;exact⟨z,j,g⟩
theorem zero104i:∃i z,Tryz.prog.info? 104=some i/\i.zero=some z/\z.cells=([I 0,I 0]:List Value).toArray:=infoZ (by kernel_rfl)
theorem info104:(Tryz.prog.info? 104).map (·.size)=some 2:=by kernel_rfl
theorem under104:∃d,Tryz.prog.underlying 104=some d/\d.isRow=true:=by
 have h:(Tryz.prog.underlying 104).map (·.isRow)=some true:=by kernel_rfl
 obtain⟨d,j,g⟩:=Option.map_eq_some_iff.1 h;exact⟨d,j,g⟩
def lkK(r:Option Nm):Int:=match r with
 |none=>0
 |some x=> (x.kind:Int)
def lkS(r:Option Nm):Int:=match r with
 |none=>0
 |some x=> (x.slot:Int)
theorem lkV_eq(r:Option Nm):lkV r= .agg #[I (lkK r),I (lkS r)]:=by cases r<;>rfl
def fndOk(x:Nm)(e:Ending)(_:World):Prop:=e= .returned x.ev
theorem pfind_any{F h:Nat}{pc:List Value}{D:PF}(H:Fi w F g h pc D)(s:ByteArray)(k:Nat)(lo:Bool)(p:Int×Int):Calls Tryz.prog 150 #[Pt F,.string s,I k,.bool lo,.agg #[I p.1,I p.2]] w (PRt w (fnd D.L s k lo p) fndOk):=by
 obtain⟨i4,z4,b4,a7,b5⟩:=zero104i;obtain⟨d4,a1,a0⟩:=under104;obtain⟨R,j⟩:=eX (fnd D.L s k lo p);rw[j];unfold fnd at j;have W:=O j;clear j;have HH:=O H;clear H;obtain⟨l,c⟩:=p;go_in;refine wk fun K A=>?_;go_wp2_with (first
  | (with_reducible refine aa 9 (.box 32 _) ?_;refine wpList_box_blk z (.tmp 4) z [I l,I c] z w.1.size z ?_;intro W1 k1 b1 a9;have K1:=O k1;have B1:=O b1;clear k1 b1)
  | (with_reducible refine aa 10 (.alloc 104) ?_;refine wpList_alloc_blk b4 a7 b5 z z (w.1.size+1) a9 ?_;intro W2 k2 b2 s2;have K2:=O k2;have Y:=O b2;clear k2 b2)
 )
 refine A.o _ _ ?_;clear A K;have HF:=O ((HH.o.up B1.o).up Y.o);have HB:=O (B1.o.trans (Y.o.mono B1.o.size));have Q:=O (K1.o.below Y.o);have HX:=O K2.o;clear K1 K2 B1 Y a9 HH;have c13:=HF.o.c13;have a5:=look_nm HF.o.m s;rw[lkV_eq]at a5;obtain⟨r,hr⟩:∃r,lkN D.L s=r:=⟨_,z⟩;rw[hr]at a5 W;clear hr;have G:=Q.o.cell 0;have E:=Q.o.cell 1;simp only[List.getElem?_cons_zero,List.getElem?_cons_succ]at G E;refine wk fun K A=>?_;go_wp2_with (first
  | (with_reducible refine aa 11 (.alloc 104) ?_;refine wpList_alloc_blk b4 a7 b5 z z (w.1.size+1+1) s2 ?_;intro W3 k3 b3 s3;have K3:=O k3;have B3:=O b3;clear k3 b3)
  | (with_reducible refine s0 104 ?_;refine wpList_store_ch info104 z (.tmp 11) (.tmp 20) z (w.1.size+1+1) [I (lkK r),I (lkS r)] _ z z K3.o z ⟨z,by simp[Value.oneCell']⟩ ?_;intro W4 k4 c4;have S:=O (And.intro k4 c4);clear k4 c4)
 )
 refine A.o _ _ ?_;clear A K;have hp:=Q.o.lt;have hx:=HX.o.lt;have X:=O (S.o.2.blk (by omega) (Q.o.below B3.o));have a2:=O (S.o.2.blk (by omega) (HX.o.below B3.o));have J:=O (S.o.2.below (by omega) (HB.o.trans (B3.o.mono HB.o.size)));have Z:=O S.o.1;clear Q HX HB K3 B3 S c13 a5 G E HF;have G:=X.o.cell 0;have E:=X.o.cell 1;have e0:=Z.o.cell 0;have e1:=Z.o.cell 1;simp only[List.getElem?_cons_zero,List.getElem?_cons_succ]at G E e0 e1;rcases r with _|x
 .have j:=W.o;go_wp2_with fail;subst j;exact⟨z,J.o,z⟩
 have j:=W.o;simp only[lkK,lkS]at e0 e1;refine wk fun K A=>?_;go_wp2_with fail;refine A.o _ _ ?_;clear A K;obtain⟨xt,C,xs⟩:=x;have a4:Hid (Blk W4 (w.1.size+1+1) 104 [.int .i64 (C:Int),.int .i64 (xs:Int)]):=Z;clear Z;refine wk fun K A=>?_;by_cases hk:C=k
 .subst hk;rw[if_neg (by simp)]at j;have a3:=O j.symm;clear j W;go_wp2_with fail;refine A.o _ _ ?_;go_wp2_with (first
   | (with_reducible refine l0 104 ?_;refine wpList_load_blk a1 a0 info104 z (.tmp 11) z (w.1.size+1+1) [I C,I xs] z a4 z ?_)
   | (with_reducible refine s0 104 ?_;refine wpList_store_ch info104 z (.tmp 10) (.tmp 42) z (w.1.size+1) [I C,I xs] _ z z a2.o z ⟨z,by simp[Value.oneCell']⟩ ?_;intro W9 V N;have U:=O (And.intro V N);clear V N)
  )
  refine end_blk a1 a0 info104 U.o.1 z z z z ?_;rw[a3.o];exact⟨U.o.2.below (by omega) J.o,z⟩
 .have b9:¬ (C:Int)=(k:Int):=by omega
  cases lo with
  |false=>
   rw[if_pos ⟨hk,by simp⟩]at j;go_wp2_with fail;subst j;exact⟨z,J.o,z⟩
  |true=>
   go_wp2_with fail;refine(plocal_any (C:Int) (xs:Int) W4).mono ?_;rintro e W5 ⟨rfl,M⟩;have a8:=O (J.o.trans (M.mono J.o.size));have a6:=O (X.o.below M);have b6:=O (a2.o.below M);have b8:=O (a4.o.below M);clear M J X a2 a4 G E e0 e1;have G:=a6.o.cell 0;have E:=a6.o.cell 1;simp only[List.getElem?_cons_zero,List.getElem?_cons_succ]at G E;by_cases h0:C=0
   .have b7:(C:Int)=0:=by omega
    rw[if_neg (by simp[h0])]at j;have a3:=O j.symm;clear j W;go_wp2_with fail;refine A.o _ _ ?_;go_wp2_with (first
     | (with_reducible refine l0 104 ?_;refine wpList_load_blk a1 a0 info104 z (.tmp 11) z (w.1.size+1+1) [I C,I xs] z b8 z ?_)
     | (with_reducible refine s0 104 ?_;refine wpList_store_ch info104 z (.tmp 10) (.tmp 42) z (w.1.size+1) [I C,I xs] _ z z b6.o z ⟨z,by simp[Value.oneCell']⟩ ?_;intro W9 V N;have U:=O (And.intro V N);clear V N)
    )
    refine end_blk a1 a0 info104 U.o.1 z z z z ?_;rw[a3.o];exact⟨U.o.2.below (by omega) a8.o,z⟩
   .have b7:¬ (C:Int)=0:=by omega
    rw[if_pos ⟨hk,by simp[h0]⟩]at j;go_wp2_with fail;subst j;exact⟨z,a8.o,z⟩
def mapE{α β:Type}(f:α->β):Except Flw α->Except Flw β
 | .error e=> .error e
 | .ok x=> .ok (f x)
theorem mapE_mapE{j w A:Type}(f:j->w)(g:w->A)(r:Except Flw j):mapE g (mapE f r)=mapE (fun x=>g (f x)) r:=by cases r<;>rfl
theorem fExs_cons(L:List Nm)(p:Int×Int)(x:Ex)(r:List Ex):fExs L p (x::r)=(match fEx L p x with| .error e=> .error e| .ok y=>mapE (y::·) (fExs L p r)):=by
 rw[fExs];cases fEx L p x with
 |error e=>rfl
 |ok y=>cases fExs L p r<;>rfl
def exHd(L:List Nm)(p:Int×Int)(k:Int)(s:ByteArray)(sl:Int)(lo:Bool):Except Flw (Int×Bool):=if k=2 then (fnd L s 1 true p).map fun x=> ((x.slot:Int),decide (x.kind=0)) else if k=3 then (fnd L s 2 false p).map fun x=> ((x.slot:Int),lo) else .ok (sl,lo)
theorem fEx_mk(L:List Nm)(p:Int×Int)(k n:Int)(s:ByteArray)(sl:Int)(lo:Bool)(o:Int)(args:List Ex):fEx L p (.mk k n s sl lo o args)=(match exHd L p k s sl lo with| .error e=> .error e| .ok q=>mapE (fun l=> .mk k n s q.1 q.2 o l) (fExs L p args)):=by
 rw[fEx];show (match exHd L p k s sl lo with| .error e=>_| .ok (sl',lo')=>_)=_;cases exHd L p k s sl lo with
 |error e=>rfl
 |ok q=>cases fExs L p args<;>rfl
structure Xp (w:World) (ec:List Value) (pl pc:Int) (W:World):Prop where
 b:Below w.1.size w W
 e:Blk W w.1.size 58 ec
 p:Blk W (w.1.size+1) 32 [.int .i64 pl,.int .i64 pc]
 y:Blk W (w.1.size+1+1) 58 zExC
section
variable {w W W':World} {ec ec':List Value} {pl pc:Int}
theorem Xp.below3(h:Xp w ec pl pc W)(g:Below (w.1.size+3) W W'):Xp w ec pl pc W':=⟨h.b.trans (g.mono (by omega)),h.e.of (g.block _ (by omega)),h.p.of (g.block _ (by omega)),h.y.of (g.block _ (by omega))⟩
theorem Xp.lt(h:Xp w ec pl pc W):w.1.size+3<=W.1.size:=h.y.lt
theorem Xp.below(h:Xp w ec pl pc W)(g:bL W W'):Xp w ec pl pc W':=h.below3 (g.mono h.lt)
theorem Xp.ch(h:Xp w ec pl pc W)(j:w.1.size+3<=b)(g:Ch b W W'):Xp w ec pl pc W':=h.below3 (g.below j (Below.refl _ _))
theorem Xp.setE(h:Xp w ec pl pc W)(j:Blk W' w.1.size 58 ec')(g:Ch w.1.size W W'):Xp w ec' pl pc W':=⟨g.below (by omega) h.b,j,g.blk (by omega) h.p,g.blk (by omega) h.y⟩
end
theorem pex_end{k n:Int}{sl:Int}{lo:Bool}{pc:Int}{l:List Ex}(D:Hid (Xp w (exC k n s sl lo p0 v0) p1 pc W))(K:Hid (Grow elEx (w.1.size+3) W (.slice a0 l.length j) l)){R:Except Flw Ex}(HR:Hid (R= .ok (.mk k n s sl lo p0 l)))(hU:l2.length=44:=by rfl):
  Code.wp Tryz.prog (dropS 4 (Tryz.f148.body.getD .skip)) (bodyPost Tryz.prog Tryz.f148 (PRt w R (exOk w))) ⟨(v1::v2::v3::v4::Pt w.1.size::Pt (w.1.size+1)::Pt (w.1.size+1+1)::v5:: .slice a0 l.length j::l2).toArray,[]⟩ W:=by
 revert l2;apply aN;iterate 44 intro _
 change Code.wp _ _ _ _ _;obtain⟨a7,a2,V⟩:=under58;have a1:Roomy l.length j:=by obtain⟨a,cap,h1,h2⟩:=K.form;cases h1;exact h2
 have c6:W.cell? ⟨w.1.size,6,none⟩=some v0:=by rw[D.o.e.cell];rfl
 have f6:=D.e.frozen 6;obtain⟨g,J⟩:=eX (l.length);have a5:=O a1;have U:=O K.exs;clear a1 K;rw[J];have HN:=O J;clear J;conv in (dropS _ _)=>whnf
 refine wk fun K1 X=>?_;go_wp2;apply X;clear X K1;have N:=O (D.setE (D.e.set1 6 (.slice a0 g j)) (Ch.one 6 (.slice a0 g j) W));have a4:=O (ExsL.keep (fun c o u C G=>by have Z:=C;rw[(Ch.one 6 (.slice a0 g j) W).cellF (show c≠w.1.size by omega)];exact G) U)
 clear D U c6 f6;generalize W.setCell _ _=W1 at *;have E:Hid (Xp w (exC k n s sl lo p0 (.slice a0 g j)) p1 pc W1):=N;clear N;obtain⟨A,F⟩:∃A,exC k n s sl lo p0 (.slice a0 g j)=A:=⟨_,z⟩;have H:A.length=7/\∀v∈A,v.oneCell'=true:=by rw[<-F];exact exC_one
 rw[F]at E;have a3:=O F;have a6:=O H;have Y:=H.1;clear F H;go_wp2_with (first
  | (with_reducible refine l0 58 ?_;refine wpList_load_blk a2 V info58 z (.tmp 4) z w.1.size A z (O E.o.e) Y ?_)
  | (with_reducible refine s0 58 ?_;refine wpList_store_ch info58 z (.tmp 6) (.tmp 52) z (w.1.size+1+1) A _ z z E.o.y z a6.o ?_;intro W9 Q S;have M:=O (And.intro Q S);clear Q S)
 )
 refine end_blk a2 V info58 M.o.1 Y z z z ?_;rw[HR.o];refine⟨M.2.below (by omega) E.b,A,z,?_⟩;rw[<-a3.o,<-HN.o];unfold ExL;exact⟨a0,j,z,a5,ExsL.weak (fun c C=>by have Z:=C;show w.1.size<=c;omega) (ExsL.keep (fun c o u C G=>by have Z:=C;rw[M.o.2.cellF (show c≠w.1.size+1+1 by omega)];exact G) a4)⟩
theorem pex_loop{k n:Int}{sl:Int}{lo:Bool}{pc:Int}{F h:Nat}{fc:List Value}{D:PF}{cap:Nat}{args:List Ex}(HF:Hid (Fi w F g h fc D))(K:Roomy args.length cap)(b5:args.length<=10000000)(HX:Hid (XlAt w a args))
  (IH:Hid (∀x∈args,∀xs W,Fi W F g h fc D->ExL (fun _=>True) W xs x->Calls Tryz.prog 148 #[Pt F,.agg xs.toArray,.agg #[I p0,I pc]] W (PRt W (fEx D.L (p0,pc) x) (exOk W))))
  (E:Hid (Xp w (exC k n s sl lo p1 (.slice a args.length cap)) p0 pc W)){R:Except Flw Ex}(HR:Hid (R=mapE (fun l=> .mk k n s sl lo p1 l) (fExs D.L (p0,pc) args)))(hU:l2.length=46:=by rfl):
  Code.wp Tryz.prog (dropS 2 (Tryz.f148.body.getD .skip)) (bodyPost Tryz.prog Tryz.f148 (PRt w R (exOk w))) ⟨(Pt F::v0::v1::v2::Pt w.1.size::Pt (w.1.size+1)::Pt (w.1.size+1+1)::l2).toArray,[]⟩ W:=by
 revert l2;apply aN;iterate 46 intro _
 change Code.wp _ _ _ _ _;obtain⟨f2,e1,d9⟩:=under58;obtain⟨i8,z8,f6,g2,g5⟩:=zero58;have c9:Hid (Tryz.prog.underlying 56=some (.slice 58)):=O (by kernel_rfl);obtain⟨i0,z0,M,a0,V,Z,a4⟩:∃i z,Tryz.prog.info? 58=some i/\i.zero=some z/\z.cells.size=7/\i.size=7/\i.bytes<=1024:=by have h:=infoEx;obtain⟨i,h1,h2⟩:=Option.map_eq_some_iff.1 h;simp only[Prod.mk.injEq]at h2;obtain⟨h3,h4,h5⟩:=h2;obtain⟨z,h6,h7⟩:=Option.map_eq_some_iff.1 h3;exact⟨i,z,h1,h6,h7,h4,of_decide_eq_true h5⟩
 have Y:=O (And.intro M (And.intro a0 (And.intro V (And.intro Z a4))));clear M a0 V Z a4;obtain⟨C,hN⟩:=eX (args.length);rw[hN]at E K b5;have Q:=O hN;clear hN;have d8:=O K;have g9:=O fun _:True=>b5;clear K b5;conv in (dropS _ _)=>whnf
 refine wk fun KK a2=>?_;go_wp2_with fail;refine a2.o _ _ ?_;clear a2 KK;have c6:W.cell? ⟨w.1.size,6,none⟩=some (.slice a C cap):=by rw[E.o.e.cell];rfl
 refine wk fun KK a2=>?_;go_wp2_with fail;clear c6;go_loopg [8,38] C (fun x av iv wr=>∃ (i:Nat) (acc:List Ex),i<=C/\x=C-i/\iv=I i/\acc.length=i/\Hid (Grow elEx (w.1.size+3) wr av acc)/\Hid (Xp w (exC k n s sl lo p1 (.slice a C cap)) p0 pc wr)/\Hid (fExs D.L (p0,pc) args=mapE (acc++·) (fExs D.L (p0,pc) (args.drop i))));case atStart=>exact⟨0,[],Nat.zero_le _,rfl,rfl,rfl,O (Grow.nil _ _ _),E,O (by cases h:fExs D.L (p0,pc) args<;>simp[mapE,h])⟩
 case round=>
  clear E;obtain⟨i,acc,hi,rfl,rfl,X,S,E,HD⟩:=hrel;obtain⟨ga,a8,rfl,b6⟩:=S.o.form;have i4:=O b6;clear b6;have b9:=O X;clear X;by_cases a5:i<C
  .have h9:(i:Int)< (C:Int):=by omega
   have h8:(0:Int)<=(i:Int):=by omega
   have K:(i:Int)+1<=9223372036854775807:=by have h1:=d8.o.1;have h2:=d8.o.2;omega
   have f4:=O fun _:True=>K;clear K;obtain⟨b2,b8,xs,rfl,e3,a3⟩:=XlAt.at (XlAt.below HX.o E.o.b) (j:=i) (by rw[Q.o];exact a5);have d2:args.getD i zEx∈args:=by rw[List.getD_eq_getElem?_getD,List.getElem?_eq_getElem (by rw[Q.o];exact a5)];exact List.getElem_mem _
   have c8:=fun W=>IH.o _ d2 xs W;have d6:args.drop i=args.getD i zEx::args.drop (i+1):=by rw[List.drop_eq_getElem_cons (by rw[Q.o];exact a5),List.getD_eq_getElem?_getD,List.getElem?_eq_getElem (by rw[Q.o];exact a5)];rfl
   have A:=HD.o;rw[d6,fExs_cons]at A;generalize args.getD i zEx=x at *;have g4:=O c8;have d1:=O A;have f7:Hid (ExL (fun _=>True) wr xs x):=O a3;have f0:Hid (wr.rangeAt b2 (b8+i*7) xs):=O e3;have g8:=O a3.cells;have b7:=a3.cells.1;clear c8 A a3 e3 d6 HD d2;obtain⟨J,a7⟩:=eX (wr.1.size);have a6:Hid (w.1.size+3<=J):=O (by rw[<-a7];exact E.o.lt);go_wp2_with (first
    | (with_reducible refine l1 41 58 ?_;refine wpList_load_mid rfl 58 (.tmp 40) rfl b2 (b8+i*7) rfl xs f2 f0.o e1 d9 (by rw[b7];exact info58) ?_)
    | (with_reducible refine aa 10 (.alloc 58) ?_;refine wpList_alloc_blk f6 g2 g5 rfl rfl J a7 ?_;intro W4 k4 b4 s4;have K4:=O k4;have B4:=O b4;clear k4 b4)
    | (with_reducible refine s0 58 ?_;refine wpList_store_ch info58 rfl (.tmp 10) (.tmp 41) rfl J xs _ rfl rfl K4.o rfl g8.o ?_;intro W5 k5 c5;have U:=O (And.intro k5 c5);clear k5 c5;have G:=O ((E.o.below B4.o).ch a6.o U.o.2);have d3:=(G.o.p.cell 0);have e0:=G.o.p.cell 1;simp only[List.getElem?_cons_zero,List.getElem?_cons_succ]at d3 e0)
    | (with_reducible refine l1 44 58 ?_;refine wpList_load_blk e1 d9 info58 rfl (.tmp 10) rfl J xs rfl (O U.o.1) b7 ?_)
   )
   have a9:Below wr.1.size wr W5:=U.o.2.below (by omega) B4.o;refine(g4.o W5 (HF.o.up G.o.b) (f7.o.sub a9)).mono ?_;rintro e W6 ⟨N,hm⟩;obtain⟨r,hr⟩:=eX (fEx D.L (p0,pc) x);have A:=d1.o;rw[hr]at hm A;clear hr;rcases r with er|y
   .obtain rfl:e= .panicked [flawN er]:=hm;have H:=HR.o;rw[A]at H;subst H;exact⟨rfl,G.o.b.trans (N.mono G.o.b.size),rfl⟩
   obtain⟨es,rfl,he⟩:=hm;have g7:=O A;clear A d1;have HL:=O he.cells;have e6:J+1<=W5.1.size:=by rw[U.o.2.size];omega
   have g1:=N.size;have d5:=S.o;have g3:Hid (∀g,(Value.slice ga acc.length a8).ownBlock=some g->g<J):=O fun g hg=>by obtain⟨cells,-,h5,-⟩:=d5.own;have:=(h5.lt g hg).2;omega
   clear d5;have d4:Hid (elEx.L (fun c=>w.1.size+3<=c/\(Value.slice ga acc.length a8).ownBlock≠some c) W6 es y):=O (ExL.weak (fun c hc=>by have i3:W5.1.size<=c:=hc;have:=a6.o;exact⟨by omega,fun e=>by have:=g3.o c e;omega⟩) he)
   have d0:=O ((S.o.below a9).below N);have e4:=O (G.o.below N);have f1:Hid (w.1.size+3<=W6.1.size):=O (by have:=a6.o;omega);have X:acc.length<=10000000:=by have:=b9.o;have:=g9.o trivial;omega
   have e9:=O fun _:True=>X;clear X he N a9 S E G d3 e0 U B4 K4 s4 a7 e6 g1;have M:=Y.o.1;have a0:=Y.o.2.1;have V:=Y.o.2.2.1;have Z:=Y.o.2.2.2.1;have a4:=Y.o.2.2.2.2;go_wp2_with (first
    | ((with_reducible show wpList _ _ _ (Oper.mk (some 47) _ _ _ _ _::_) _ _);refine wpList_build1 rfl (.tmp 46) rfl c9.o M a0 Z V (by decide) (by decide) _ es rfl rfl HL.o.1 ?_;obtain⟨gE,a1⟩:=eX (W6.1.size);rw[a1];intro Wb kb bb sb;have KB:=O kb;have f8:=O (d0.o.below bb);have e7:=O (e4.o.below bb);have h0:=O (elEx.keep (fun b o u _ hu=>below_cell bb b o u hu) d4.o);have g6:Hid (w.1.size+3<=Wb.1.size):=O (by have:=f1.o;omega);clear kb bb sb d0 e4 d4)
    | (at_builtin;refine wpList_append_at elEx rfl (.tmp 42) (.tmp 47) 56 rfl i0 z0 c9.o M a0 Z V (by decide) a4 (w.1.size+3) Wb (.slice ga acc.length a8) acc rfl f8.o es y h0.o _ 58 KB.o rfl (e9.o trivial) g6.o ?_;intro gb i1 i5 e2 d7 e5 e8;have f5:=O e2;have f3:=O d7;clear e2 d7 e5 e8)
   )
   go_roundg (C- (i+1));case measure=>omega
   case rel=>
    refine⟨i+1,acc++[y],by omega,rfl,?_,by have:=b9.o;simp;omega,by simpa using f5,O (e7.o.below3 f3.o),O ?_⟩
    .have hp:=f4.o trivial;exact congrArg (Value.int .i64) ((IntWalk.wrap64_in _ (by omega)).trans (by omega))
    .rw[g7.o,mapE_mapE];simp
  .obtain rfl:i=C:=by omega
   have i2:¬ (i:Int)< (i:Int):=by omega
   have A:=HD.o;rw[show args.drop i=[] by rw[<-Q.o,List.drop_length]]at A;have H:=HR.o;rw[A]at H;have f9:Hid (R= .ok (.mk k n s sl lo p1 acc)):=O (by rw[H];simp[fExs,mapE]);clear A H;go_wp2_with fail;refine a2.o _ _ ?_;exact pex_end E S f9
theorem map_mapE{g j:Type}(f:g->j)(r:Except Flw g):r.map f=mapE f r:=by cases r<;>rfl
theorem pex_step{F h:Nat}{fc:List Value}{D:PF}(k n:Int)(s:ByteArray)(sl:Int)(lo:Bool)(K:Int)(args:List Ex)(p:Int×Int)(a3:args.length<=10000000)
  (IH:∀x∈args,∀xs W,Fi W F g h fc D->ExL (fun _=>True) W xs x->Calls Tryz.prog 148 #[Pt F,.agg xs.toArray,.agg #[I p.1,I p.2]] W (PRt W (fEx D.L p x) (exOk W)))
  (ec:List Value)(w:World)(hF:Fi w F g h fc D)(hX:ExL (fun _=>True) w ec (.mk k n s sl lo K args)):Calls Tryz.prog 148 #[Pt F,.agg ec.toArray,.agg #[I p.1,I p.2]] w (PRt w (fEx D.L p (.mk k n s sl lo K args)) (exOk w)):=by
 obtain⟨f1,f5,f2⟩:=under58;obtain⟨i8,z8,e2,e3,e7⟩:=zero58;obtain⟨i4,z4,e1,f0,e5⟩:=zero104i;obtain⟨d4,e6,e4⟩:=under104;obtain⟨A,pc⟩:=p;unfold ExL at hX;obtain⟨a,cap,d3,e0,c9⟩:=hX;have d9:=c9;obtain⟨R,j⟩:=eX (fEx D.L (A,pc) (.mk k n s sl lo K args));rw[j];rw[fEx_mk]at j;obtain⟨E,hE⟩:=eX (exC k n s sl lo K (.slice a args.length cap));have e9:ec=E:=by rw[<-hE,d3];rfl
 subst e9;have e8:=O hE;have a7:=O e0;have HX:=O d9;have HF:=O hF;have a9:=O IH;have b8:=O fun _:True=>a3;have U:=O j;clear j d3 e0 c9 d9 hF hE IH a3;go_in;refine wk fun KK S=>?_;go_wp2_with (first
  | (with_reducible refine aa 4 (.box 58 _) ?_;refine wpList_box_blk z (.tmp 1) z ec z w.1.size z ?_;intro W1 k1 b1 b9;have K1:=O k1;have B1:=O b1;clear k1 b1)
  | (with_reducible refine aa 5 (.box 32 _) ?_;refine wpList_box_blk z (.tmp 2) z [I A,I pc] z (w.1.size+1) b9 ?_;intro W2 k2 b2 s2;have K2:=O k2;have B2:=O b2;clear k2 b2)
  | (with_reducible refine aa 6 (.alloc 58) ?_;refine wpList_alloc_blk e2 e3 e7 z z (w.1.size+1+1) s2 ?_;intro W3 k3 b3 s3;have K3:=O k3;have B3:=O b3;clear k3 b3)
 )
 apply S;clear S KK;have b7:=B1.trans (B2.mono B1.size);have d6:=b7.trans (B3.mono b7.size);have C:Hid (Xp w ec A pc W3):=O ⟨d6,(K1.below B2).below B3,K2.below B3,K3⟩;clear B1 B2 B3 K1 K2 K3 b7 d6 b9 s2 s3;rw[<-e8.o]at C;have c0:W3.cell? ⟨w.1.size,0,none⟩=some (I k):=by rw[C.o.e.cell];rfl
 refine wk fun KK S=>?_;by_cases d0:k=2
 .subst d0;have c2:W3.cell? ⟨w.1.size,2,none⟩=some (.string s):=by rw[C.o.e.cell];rfl
  have Z:=C.p.cell 0;have p1:=C.p.cell 1;simp only[List.getElem?_cons_zero,List.getElem?_cons_succ]at Z p1;have j:=U.o;rw[show exHd D.L (A,pc) 2 s sl lo=(fnd D.L s 1 true (A,pc)).map fun x=> ((x.slot:Int),decide (x.kind=0)) from rfl,map_mapE]at j;have N:=pfind_any (HF.up C.b) s 1 true (A,pc);obtain⟨r,Y⟩:=eX (fnd D.L s 1 true (A,pc));rw[Y]at N j;have Q:=O j;clear Y j U;go_wp2_with fail;apply N.mono;clear N;rintro e W4 ⟨J,hm⟩;have H:=O (C.below J);clear J c0 c2 Z p1 C;rcases r with er|⟨xt,G,xs⟩
  .obtain rfl:e= .panicked [flawN er]:=hm;have j:=Q.o;obtain rfl:=j;exact⟨z,H.b,z⟩
  obtain rfl:e= .returned (.agg #[I G,I xs]):=hm;have a0:=O Q.symm;clear Q;obtain⟨X,b6⟩:∃b,W4.1.size=b:=⟨_,z⟩;have d5:Hid (w.1.size+3<=X):=O (b6▸H.o.lt);go_wp2_with (first
   | (with_reducible refine aa 7 (.alloc 104) ?_;refine wpList_alloc_blk e1 f0 e5 z z X b6 ?_;intro W5 k5 b5 s5;have K5:=O k5;have B5:=O b5;clear k5 b5)
   | (with_reducible refine s0 104 ?_;refine wpList_store_ch info104 z (.tmp 7) (.tmp 19) z X [I G,I xs] _ z z K5.o z ⟨z,by simp[Value.oneCell']⟩ ?_;intro W6 k6 c6;have K6:=O (And.intro k6 c6);clear k6 c6)
  )
  have a3:Tryz.prog.follows .mixedOrders=true:=by kernel_rfl
  obtain⟨a1,hV⟩:=eX (W6.drew);have d2:Hid (Xp w (exC 2 n s sl lo K (.slice a args.length cap)) A pc a1):=O (by rw[<-hV];exact((H.o.below B5.o).ch d5.o K6.o.2).below (Below.refl _ _).drew);have V:Hid (Blk a1 X 104 [I G,I xs]):=O (by rw[<-hV];exact K6.o.1.drew);clear H K5 B5 K6 s5 b6;apply wp_region_x [7] (fun W=>Blk W X 104 [I G,I xs]) a3;rw[hV];clear hV;refine ag 0 ?_;refine wpX_takeD 1 (some 21) (v:=?_) z z (by kernel_rfl) (fun _ _ _ h=>h) V (Or.inl ⟨by rfl,?_⟩) ?_;rotate_left
  .intro W1 d8;have k1:=d8.cell 1;simp only[List.getElem?_cons_zero,List.getElem?_cons_succ]at k1;clear d8;go_simp;first|with_reducible rfl|rw[if_neg (by omega)]
  refine tl 2 22 V 104 7 X 0 [I G,I xs] d4 (fun W hS=>hS.whole) e6 e4 info104 ?_;refine ag 4 ?_;refine nm ?_;refine oD 3 fun a2 M=>?_;go_simp;apply (plocal_any (G:Int) (xs:Int) a1).mono;rintro e V2 ⟨rfl,J⟩;have a6:=O (d2.below J);have a4:=O (V.below J);apply M _ _ (fun _=>a4);clear M a2 J d2 V;refine oD 5 fun a2 M=>?_;refine wp_store_one (by kernel_rfl) (.tmp 24) (.tmp 21) z w.1.size 3 58 (I xs) _ z z z z a6.e (by show 3<7;decide) ?_;intro W7 k7 c7;have a5:=O (a6.setE k7 c7);have a8:=O (c7.blk (by have:=d5.o;omega) a4);apply M _ _ (fun _=>a8);clear M a2 k7 c7 a6 a4;refine ag 6 ?_;refine nm ?_;refine oD 7 fun a2 M=>?_
  refine wp_store_one (by kernel_rfl) (.tmp 25) (.tmp 23) z w.1.size 4 58 (.bool (decide ((G:Int)=0))) _ z z z z a5.e (by show 4<7;decide) ?_;intro W8 k8 c8;have d7:=O (a5.setE k8 c8);apply M _ _ nofun;clear M a2 k8 c8 a5 a8;simp only[Act.put];refine dn ?_;have hq:Xp w (exC 2 n s (xs:Int) (decide (G=0)) K (.slice a args.length cap)) A pc W8:=by have h0:=d7.o;rw[show decide ((G:Int)=0)=decide (G=0) by simp]at h0;exact h0
  have b4:=O hq;clear hq d7;go_wp2;apply S;exact pex_loop HF a7 (b8 trivial) HX a9 b4 a0
 by_cases d1:k=3
 .subst d1;have c2:W3.cell? ⟨w.1.size,2,none⟩=some (.string s):=by rw[C.o.e.cell];rfl
  have Z:=C.p.cell 0;have p1:=C.p.cell 1;simp only[List.getElem?_cons_zero,List.getElem?_cons_succ]at Z p1;have j:=U.o;rw[show exHd D.L (A,pc) 3 s sl lo=(fnd D.L s 2 false (A,pc)).map fun x=> ((x.slot:Int),lo) from rfl,map_mapE]at j;have N:=pfind_any (HF.up C.b) s 2 false (A,pc);obtain⟨r,Y⟩:=eX (fnd D.L s 2 false (A,pc));rw[Y]at N j;have Q:=O j;clear Y j U;go_wp2_with fail;apply N.mono;clear N;rintro e W4 ⟨J,hm⟩;have H:=O (C.below J);clear J c0 c2 Z p1 C;rcases r with er|⟨xt,G,xs⟩
  .obtain rfl:e= .panicked [flawN er]:=hm;have j:=Q.o;obtain rfl:=j;exact⟨z,H.b,z⟩
  obtain rfl:e= .returned (.agg #[I G,I xs]):=hm;have a0:=O Q.symm;clear Q;have f4:(Instr.field 104 (.agg #[I G,I xs]) 1).run Tryz.prog W4= .ok (I xs) W4:=by kernel_rfl
  have c3:W4.cell? ⟨w.1.size,3,none⟩=some (I sl):=by rw[H.o.e.cell];rfl
  have f3:=H.e.frozen 3;have b4:=O (H.setE (H.e.set1 3 (I xs)) (Ch.one 3 _ _));clear H;go_wp2;apply S;exact pex_loop HF a7 (b8 trivial) HX a9 b4 a0
 .have j:=U.o;rw[show exHd D.L (A,pc) k s sl lo= .ok (sl,lo) by unfold exHd;rw[if_neg d0,if_neg d1]]at j;have a0:=O j.symm;clear U j;go_wp2;apply S;exact pex_loop HF a7 (b8 trivial) HX a9 C a0
mutual
theorem pex_all {F g h:Nat} {fc:List Value} {D:PF} (p:Int×Int):∀ (e:Ex),e.sm->∀ (ec:List Value) (w:World),Fi w F g h fc D->ExL (fun _=>True) w ec e->Calls Tryz.prog 148 #[.pointer (some ⟨F,0,none⟩),.agg ec.toArray,.agg #[.int .i64 p.1,.int .i64 p.2]] w (PRt w (fEx D.L p e) (exOk w))
 | .mk k n s sl lo op args,hs,ec,w,hF,hX=>by
  unfold Ex.sm at hs
  exact pex_step k n s sl lo op args p hs.1 (fun x hx xs W h1 h2=>pex_alls p args hs.2 x hx xs W h1 h2) ec w hF hX
theorem pex_alls {F g h:Nat} {fc:List Value} {D:PF} (p:Int×Int):∀ (l:List Ex),Ex.sms l->∀x∈l,∀ (ec:List Value) (w:World),Fi w F g h fc D->ExL (fun _=>True) w ec x->Calls Tryz.prog 148 #[.pointer (some ⟨F,0,none⟩),.agg ec.toArray,.agg #[.int .i64 p.1,.int .i64 p.2]] w (PRt w (fEx D.L p x) (exOk w))
 | [],_,x,hx,_,_,_,_=>by cases hx
 |y::r,hs,x,hx,ec,w,hF,hX=>by
  unfold Ex.sms at hs
  by_cases e:x=y
  .rw[e]at hX ⊢
   exact pex_all p y hs.1 ec w hF hX
  .exact pex_alls p r hs.2 x ((List.mem_cons.1 hx).resolve_left e) ec w hF hX
end
def stTl(L:List Nm)(loc n mo:Nat)(mk:List St->List St->St)(body els:List St):Except Flw (St×Nat×Nat):=match fSts L loc n mo body with
 | .error e=> .error e
 | .ok (b,n2,mo2)=>match fSts L loc n2 mo2 els with
  | .error e=> .error e
  | .ok (c,n3,mo3)=> .ok (mk b c,n3,mo3)
theorem fSt_mk(L:List Nm)(loc n mo:Nat)(k l c:Int)(s t:ByteArray)(x y:Ex)(body els:List St)(id sl ot:Int)(lo:Bool):fSt L loc n mo (.mk k l c s t x y body els id sl ot lo)=(if n=512 then .error ((l,c),134) else
  match fEx L (l,c) y with
  | .error e=> .error e
  | .ok g=>match fEx L (l,c) x with
   | .error e=> .error e
   | .ok j=>match stHead L loc (l,c) k s t sl ot lo with
    | .error e=> .error e
    | .ok q=>stTl L loc (n+1) mo (fun b e=> .mk k l c s t j g b e (n:Int) q.1 q.2.1 q.2.2) body els):=by
 rw[fSt]
 split
 .rfl
 cases fEx L (l,c) y with
 |error e=>rfl
 |ok g=>
  cases fEx L (l,c) x with
  |error e=>rfl
  |ok j=>
   cases stHead L loc (l,c) k s t sl ot lo with
   |error e=>rfl
   |ok q=>
    simp only[stTl]
    cases fSts L loc (n+1) mo body with
    |error e=>rfl
    |ok b=>
     obtain⟨b,n2,w⟩:=b
     simp only
     cases fSts L loc n2 w els<;>rfl
def afterS(L:List Nm)(loc mo:Nat)(s:St):List Nm×Nat×Nat:=match s with
 | .mk k _ _ nm _ _ _ _ _ _ _ _ _=>if k=1 then (L++[Nm.mk nm 0 loc],loc+1,max mo (loc+1)) else (L,loc,mo)
theorem fSts_con(L:List Nm)(loc n mo:Nat)(s:St)(r:List St):fSts L loc n mo (s::r)=(match fSt L loc n mo s with
  | .error e=> .error e
  | .ok (w,n2,g)=>mapE (fun q=> (w::q.1,q.2)) (fSts (afterS L loc g s).1 (afterS L loc g s).2.1 n2 (afterS L loc g s).2.2 r)):=by
 rw[fSts]
 cases fSt L loc n mo s with
 |error e=>rfl
 |ok q=>
  obtain⟨w,n2,g⟩:=q
  obtain⟨k,l,c,nm,t,x,y,body,els,id,sl,ot,lo⟩:=s
  by_cases j:k=1
  .subst j
   show (match fSts (L++[Nm.mk nm 0 loc]) (loc+1) n2 (max g (loc+1)) r with| .error e=>_| .ok (r',n3,mo3)=>_)=mapE _ (fSts (L++[Nm.mk nm 0 loc]) (loc+1) n2 (max g (loc+1)) r)
   cases fSts (L++[Nm.mk nm 0 loc]) (loc+1) n2 (max g (loc+1)) r<;>rfl
  .simp only[afterS,if_neg j]
   cases fSts L loc n2 g r<;>rfl
mutual
theorem fSt_n:∀ (s:St) (L:List Nm) (loc n mo:Nat) (s':St) (n2 mo2:Nat),fSt L loc n mo s= .ok (s',n2,mo2)->n<=512->n2<=512
 | .mk k l c s t x y body els id sl ot lo,L,loc,n,mo,s',n2,mo2,h,hn=>by
  rw[fSt_mk]at h
  split at h
  .cases h
  rename_i h5
  cases hy:fEx L (l,c) y with
  |error e=>rw[hy]at h;cases h
  |ok y'=>
   rw[hy]at h
   cases hx:fEx L (l,c) x with
   |error e=>rw[hx]at h;cases h
   |ok x'=>
    rw[hx]at h
    cases hq:stHead L loc (l,c) k s t sl ot lo with
    |error e=>rw[hq]at h;cases h
    |ok q=>
     rw[hq]at h
     simp only[stTl]at h
     cases hb:fSts L loc (n+1) mo body with
     |error e=>rw[hb]at h;cases h
     |ok b=>
      obtain⟨b,n3,mo3⟩:=b
      rw[hb]at h
      have h3:=fSts_n body L loc (n+1) mo b n3 mo3 hb (by omega)
      simp only at h
      cases he:fSts L loc n3 mo3 els with
      |error e=>rw[he]at h;cases h
      |ok b2=>
       obtain⟨b2,n4,mo4⟩:=b2
       rw[he]at h
       cases h
       exact fSts_n els L loc n3 mo3 b2 n2 mo2 he h3
theorem fSts_n:∀ (r:List St) (L:List Nm) (loc n mo:Nat) (r':List St) (n2 mo2:Nat),fSts L loc n mo r= .ok (r',n2,mo2)->n<=512->n2<=512
 | [],L,loc,n,mo,r',n2,mo2,h,hn=>by
  rw[fSts]at h
  cases h
  exact hn
 |s::r,L,loc,n,mo,r',n2,mo2,h,hn=>by
  rw[fSts_con]at h
  cases hs:fSt L loc n mo s with
  |error e=>rw[hs]at h;cases h
  |ok q=>
   obtain⟨s',n3,mo3⟩:=q
   rw[hs]at h
   have h3:=fSt_n s L loc n mo s' n3 mo3 hs hn
   simp only at h
   cases hr:fSts (afterS L loc mo3 s).1 (afterS L loc mo3 s).2.1 n3 (afterS L loc mo3 s).2.2 r with
   |error e=>rw[hr]at h;cases h
   |ok b=>
    obtain⟨b,n4,mo4⟩:=b
    rw[hr]at h
    cases h
    exact fSts_n r _ _ _ _ b n2 mo2 hr h3
end
theorem fSt_len:∀ (r:List St) (L:List Nm) (loc n mo:Nat) (j:List St) (n2 g:Nat),fSts L loc n mo r= .ok (j,n2,g)->j.length=r.length
 | [],L,loc,n,mo,j,n2,g,h=>by
  rw[fSts]at h
  cases h
  rfl
 |s::r,L,loc,n,mo,j,n2,g,h=>by
  rw[fSts_con]at h
  cases C:fSt L loc n mo s with
  |error e=>rw[C]at h;cases h
  |ok q=>
   obtain⟨E,n3,A⟩:=q
   rw[C]at h
   simp only at h
   cases w:fSts (afterS L loc A s).1 (afterS L loc A s).2.1 n3 (afterS L loc A s).2.2 r with
   |error e=>rw[w]at h;cases h
   |ok b=>
    obtain⟨b,n4,D⟩:=b
    rw[w]at h
    cases h
    simp[fSt_len r _ _ _ _ b n2 g w]
def PIv(D:PF):Prop:=D.loc<=32/\D.n<=512
def BP(w:World)(F g h:Nat)(fc:List Value)(D:PF)(R:Except Flw (List St×Nat×Nat))(e:Ending)(w':World):Prop:=Kp w w' F g/\match R with
 | .error f=>e= .panicked [flawN f]/\∃n mo,Fi w' F g h fc {D with n:=n,mo:=mo}
 | .ok (l,n,mo)=>Fi w' F g h fc {D with n:=n,mo:=mo}/\∃ (a:Option Addr) (cap:Nat),e= .returned (.slice a l.length cap)/\Roomy l.length cap/\StsL (w.1.size<=·) w' a 0 l
def SPp(w:World)(F g h:Nat)(fc:List Value)(D:PF)(R:Except Flw (St×Nat×Nat))(e:Ending)(w':World):Prop:=Kp w w' F g/\match R with
 | .error f=>e= .panicked [flawN f]/\∃n mo,Fi w' F g h fc {D with n:=n,mo:=mo}
 | .ok (s,n,mo)=>Fi w' F g h fc {D with n:=n,mo:=mo}/\∃cs,e= .returned (.agg cs.toArray)/\StL (w.1.size<=·) w' cs s
def BlkC(w0:World)(F g h:Nat)(fc:List Value)(l:List St):Prop:=∀ (D:PF) (a:Option Addr) (cap:Nat) (w:World),Roomy l.length cap->StsL (fun _=>True) w0 a 0 l->Below w0.1.size w0 w->Fi w F g h fc D->PIv D->Calls Tryz.prog 80 #[.pointer (some ⟨F,0,none⟩),.slice a l.length cap] w (BP w F g h fc D (fSts D.L D.loc D.n D.mo l))
theorem kp_cell{w':World}{F o:Nat}(C:Kp w w' F g)(D:c≠F)(A:c≠g)(j:w.cellF ⟨c,o,none⟩=some u):w'.cellF ⟨c,o,none⟩=some u:=by rw[<-j];simp[World.cellF,C.block c (World.block_lt_of_cellF w j) D A]
structure Xs (w0 w:World) (F g h:Nat) (fc:List Value) (D:PF) (sc:List Value) (W:World):Prop where
 k:Kp w W F g
 f:Fi W F g h fc D
 s:Blk W w.1.size 60 sc
 y:Blk W (w.1.size+1) 60 zStC
 b:Below w0.1.size w0 W
 lt:(F<w.1.size/\g<w.1.size/\h<w.1.size)/\w0.1.size<=F/\w0.1.size<=g
section
variable {w0 w W W':World} {F g h:Nat} {fc sc sc':List Value} {D D':PF}
theorem Xs.sz(H:Xs w0 w F g h fc D sc W):w.1.size+2<=W.1.size:=H.y.lt
theorem Xs.below2(H:Xs w0 w F g h fc D sc W)(j:Below (w.1.size+2) W W'):Xs w0 w F g h fc D sc W':=by have A:=H.lt;have G:=H.sz;exact⟨⟨j.os.trans H.k.os,j.tape.trans H.k.tape,j.output.trans H.k.output,Nat.le_trans H.k.size j.size,fun c C A E=> (j.block c (by omega)).trans (H.k.block c C A E)⟩,H.f.below j (by omega) (by omega) (by omega),H.s.of (j.block _ (by omega)),H.y.of (j.block _ (by omega)),H.b.trans (j.mono (by omega)),H.lt⟩
theorem Xs.below(H:Xs w0 w F g h fc D sc W)(j:bL W W'):Xs w0 w F g h fc D sc W':=H.below2 (j.mono H.sz)
theorem Xs.setS(H:Xs w0 w F g h fc D sc W)(E:Blk W' w.1.size 60 sc')(j:Ch w.1.size W W'):Xs w0 w F g h fc D sc' W':=by have J:=H.lt;refine⟨?_,H.f.ch j (by omega) (by omega) (by omega),E,j.blk (by omega) H.y,j.below (by omega) H.b,H.lt⟩;have A:=j.kp;exact⟨A.os.trans H.k.os,A.tape.trans H.k.tape,A.output.trans H.k.output,Nat.le_trans H.k.size A.size,fun c j C G=> (A.block c (Nat.lt_of_lt_of_le j H.k.size) (by omega) (by omega)).trans (H.k.block c j C G)⟩
theorem Xs.call(H:Xs w0 w F g h fc D sc W)(j:Kp W W' F g)(A:Fi W' F g h fc D'):Xs w0 w F g h fc D' sc W':=by have E:=H.lt;have C:=H.sz;exact⟨H.k.trans j,A,H.s.kp j (by omega) (by omega),H.y.kp j (by omega) (by omega),j.to_below H.b (by omega) (by omega) (by omega),H.lt⟩
theorem Xs.setF(H:Xs w0 w F g h fc D sc W)(j:Nat)(v:Value)(D':PF)(A:D'.L=D.L)(C:(pfT g h D).set j v=pfT g h D'):Xs w0 w F g h fc D' sc (W.setCell ⟨F,13+j,none⟩ v):=H.call ((Kp.refl W F g).setA (13+j) v) (H.f.set j v D' A C)
end
def letP(D:PF)(p:Int×Int)(s:ByteArray):Except Flw Unit:=if (lkN D.L s).isSome then .error (p,130) else if D.loc=32 then .error (p,134) else .ok ()
def LPs(w:World)(sb:Nat)(C:List Value)(R:Except Flw Unit)(e:Ending)(w':World):Prop:=match R with
 | .error f=>e= .panicked [flawN f]/\Below w.1.size w w'
 | .ok _=>e= .returned (.tuple #[])/\Blk w' sb 60 C/\Kp w w' sb sb
theorem plet_any{F h sb:Nat}{fc:List Value}{D:PF}(H:Fi w F g h fc D){k l c:Int}{bv ev:Value}{id sl ot:Int}{lo:Bool}(hS:Blk w sb 60 (stC k l c s t l2 l3 bv ev id sl ot lo))(S:l2.length=7)(N:l3.length=7)(a9:F≠sb/\g≠sb/\h≠sb):
  Calls Tryz.prog 149 #[Pt F,Pt sb] w (LPs w sb (stC k l c s t l2 l3 bv ev id (D.loc:Int) ot true) (letP D (l,c) s)):=by
 obtain⟨i4,z4,c8,b9,d1⟩:=zero104i;have b4:Tryz.prog.follows .mixedOrders=true:=by kernel_rfl
 obtain⟨R,G⟩:=eX (letP D (l,c) s);rw[G];unfold letP at G;obtain⟨r,hr⟩:=eX (lkN D.L s);rw[hr]at G;have HR:=O G;have b7:=O hr;have J:=O (stC_at z S N (C:=stC k l c s t l2 l3 bv ev id sl ot lo));have a7:=O (fun v (i:Int) (b:Bool)=>stC_set (k:=k) (l:=l) (c:=c) (s:=s) (t:=t) (bv:=bv) (ev:=ev) (id:=id) (sl:=sl) (ot:=ot) (lo:=lo) S N v i b);have b6:=O (fun v (i:Int) (b:Bool)=>stC_set (k:=k) (l:=l) (c:=c) (s:=s) (t:=t) (bv:=bv) (ev:=ev) (id:=id) (sl:=(D.loc:Int)) (ot:=ot) (lo:=lo) S N v i b);have c9:Hid ((stC k l c s t l2 l3 bv ev id sl ot lo).length=25):=O (by simp[stC,S,N]);obtain⟨Z,a3⟩:=eX (stC k l c s t l2 l3 bv ev id sl ot lo);rw[a3]at hS J a7 c9;clear G hr S N a3;have d6:=O a9;clear a9;go_in
 refine wk fun KK a8=>?_;obtain⟨A,X⟩:=eX (w.drew);have j:Hid (Fi A F g h fc D/\Blk A sb 60 Z):=O (by rw[<-X];exact⟨H.up (Below.refl _ w).drew,hS.drew⟩);have a0:Hid (bL w A):=O (by rw[<-X];exact(Below.refl _ w).drew);have b5:A.1.size=w.1.size:=by rw[<-X];rfl
 have M:Hid (F<A.1.size/\g<A.1.size/\h<A.1.size/\sb<A.1.size/\w.1.size=A.1.size):=O ⟨j.1.lts.1,j.1.lts.2.1,j.1.lts.2.2,j.2.lt,b5.symm⟩;clear H hS;go_wp2;apply wp_region_x [] (fun W=>Fi W F g h fc D/\Blk W sb 60 Z) b4;rw[X];clear X;refine ai 0 ?_;refine af _ 3 (fun W1 K=>K.1.c13) ?_;refine nm ?_;refine ai 4 ?_;refine af _ 7 (fun W1 K=> (K.2.cell 3).trans J.o.2.2.2.1) ?_;refine nm ?_;refine wpX_takeD 8 (some 15) (v:=?_) z z (by kernel_rfl) (fun _ _ _ h=>h) j (Or.inl ⟨by rfl,?_⟩) ?_;rotate_left
 .intro W1 K;have d0:=look_nm K.1.m s;rw[lkV_eq,b7.o]at d0;go_simp;first|with_reducible rfl|rw[if_neg (by omega)]
 refine ai 9 ?_;refine nm ?_;refine oD 12 fun a2 V=>?_;obtain⟨bN,d2⟩:=eX (A.1.size);refine wp_alloc_blk c8 b9 d1 z bN d2 ?_;intro V2 hk Y z2;have U:=O (And.intro (j.1.up Y) (j.2.below Y));have KB:=O hk;have a5:=O (a0.trans (Y.mono a0.size));apply V _ _ (fun _=>U);clear V a2 hk Y j a0;refine nm ?_;refine oD 13 fun a2 V=>?_;refine wp_store_ch info104 (.tmp 4) (.tmp 16) z bN [I (lkK r),I (lkS r)] _ z z KB z ⟨z,by simp[Value.oneCell']⟩ ?_;intro V3 k3 c3;have E:=O (And.intro (U.1.ch c3 (by have:=U.1.lts;have:=M.o;omega) (by have:=M.o;omega) (by have:=M.o;omega)) (c3.blk (by have:=M.o;omega) U.2));have a1:=O (c3.below (by have:=M.o;omega) a5);apply V _ _ (fun _=>E);clear V a2 k3 c3 U a5 KB
 refine ag 14 ?_;refine nm ?_;refine dn ?_;have G:=HR.o;rcases r with _|x;rotate_left
 .have Q:=O G.symm;clear HR G;have k1:=(E.2.cell 1).trans J.2.1;have k2:=(E.2.cell 2).trans J.2.2.1;go_wp2;rw[Q.o];exact⟨z,z,a1⟩
 go_wp2;apply a8;clear a8 KK;have c17:=E.1.c17;have k1:=(E.2.cell 1).trans J.2.1;have k2:=(E.2.cell 2).trans J.2.2.1;by_cases hl:D.loc=32
 .have b8:(D.loc:Int)=32:=by omega
  have Q:Hid (R= .error ((l,c),134)):=O (by rw[<-G,if_neg (by simp),if_pos hl]);clear HR G;go_wp2;rw[Q.o];exact⟨z,z,a1⟩
 .have b8:¬ (D.loc:Int)=32:=by omega
  have Q:Hid (R= .ok ()):=O (by rw[<-G,if_neg (by simp),if_neg hl]);clear HR G;have d4:=(E.2.cell 22).trans J.2.2.2.2.2.2.2.2.1;have d7:=(E.2.cell 24).trans J.2.2.2.2.2.2.2.2.2.2;have d5:=E.o.2.frozen;have a6:Blk ((V3.setCell ⟨sb,22,none⟩ (I D.loc)).setCell ⟨sb,24,none⟩ (.bool true)) sb 60 (stC k l c s t l2 l3 bv ev id (D.loc:Int) ot true):=by have h1:=E.2.set1 22 (I D.loc);rw[(a7.o (.slice none 0 0) (D.loc:Int) false).2.2.2.1]at h1;have h2:=h1.set1 24 (.bool true);rw[(b6.o (.slice none 0 0) (D.loc:Int) true).2.2.2.2.2]at h2;exact h2
  have a4:Kp w ((V3.setCell ⟨sb,22,none⟩ (.int .i64 (D.loc:Int))).setCell ⟨sb,24,none⟩ (.bool true)) sb sb:=((Kp.below a1.o).setA 22 _).setA 24 _;have HE:=O (And.intro a6 a4);clear a6 a4;go_wp2;go_end0;rw[Q.o];exact⟨z,HE⟩
def kT1:ByteArray:=⟨#[118,97,114,32,120,32,61,32,49,59,32,116,104,114,101,97,100,32,109,97,105,110,32,123,32,108,101,116,32,121,32,61,32,120,59,32,120,32,61,32,121,32,43,32,49,59,32,112,114,105,110,116,32,120,59,32,125]⟩
def kT2:ByteArray:=⟨#[116,104,114,101,97,100,32,109,97,105,110,32,123,32,120,32,61,32,49,59,32,125]⟩
def kW1:List Wd:=[⟨3,⟨#[118,97,114]⟩,0,1,1⟩,⟨1,⟨#[120]⟩,0,1,5⟩,⟨4,⟨#[61]⟩,0,1,7⟩,⟨2,⟨#[49]⟩,1,1,9⟩,⟨4,⟨#[59]⟩,0,1,10⟩,⟨3,⟨#[116,104,114,101,97,100]⟩,0,1,12⟩,⟨1,⟨#[109,97,105,110]⟩,0,1,19⟩,⟨4,⟨#[123]⟩,0,1,24⟩,⟨3,⟨#[108,101,116]⟩,0,1,26⟩,⟨1,⟨#[121]⟩,0,1,30⟩,⟨4,⟨#[61]⟩,0,1,32⟩,⟨1,⟨#[120]⟩,0,1,34⟩,⟨4,⟨#[59]⟩,0,1,35⟩,⟨1,⟨#[120]⟩,0,1,37⟩,⟨4,⟨#[61]⟩,0,1,39⟩,⟨1,⟨#[121]⟩,0,1,41⟩,⟨4,⟨#[43]⟩,0,1,43⟩,⟨2,⟨#[49]⟩,1,1,45⟩,⟨4,⟨#[59]⟩,0,1,46⟩,⟨3,⟨#[112,114,105,110,116]⟩,0,1,48⟩,⟨1,⟨#[120]⟩,0,1,54⟩,⟨4,⟨#[59]⟩,0,1,55⟩,⟨4,⟨#[125]⟩,0,1,57⟩]
def kW2:List Wd:=[⟨3,⟨#[116,104,114,101,97,100]⟩,0,1,1⟩,⟨1,⟨#[109,97,105,110]⟩,0,1,8⟩,⟨4,⟨#[123]⟩,0,1,13⟩,⟨1,⟨#[120]⟩,0,1,15⟩,⟨4,⟨#[61]⟩,0,1,17⟩,⟨2,⟨#[49]⟩,1,1,19⟩,⟨4,⟨#[59]⟩,0,1,20⟩,⟨4,⟨#[125]⟩,0,1,22⟩]
def kL1:List De:=[⟨1,1,1,⟨#[120]⟩,1,[]⟩,⟨6,1,12,⟨#[109,97,105,110]⟩,0,[.mk 1 1 26 ⟨#[121]⟩ noB (.mk 2 0 ⟨#[120]⟩ 0 false 0 []) zEx [] [] 0 0 0 false,.mk 2 1 37 ⟨#[120]⟩ noB (.mk 6 0 noB 0 false 7 [(.mk 2 0 ⟨#[121]⟩ 0 false 0 []),(.mk 1 1 noB 0 false 0 [])]) zEx [] [] 0 0 0 false,.mk 15 1 48 noB noB (.mk 2 0 ⟨#[120]⟩ 0 false 0 []) zEx [] [] 0 0 0 false]⟩]
def kL2:List De:=[⟨6,1,1,⟨#[109,97,105,110]⟩,0,[.mk 2 1 15 ⟨#[120]⟩ noB (.mk 1 1 noB 0 false 0 []) zEx [] [] 0 0 0 false]⟩]
theorem klex1:lexR kT1=(kW1,(0,0),0):=lexR_of 70 (by decide) (by decide) (by kernel_rfl)
theorem klex2:lexR kT2=(kW2,(0,0),0):=lexR_of 40 (by decide) (by decide) (by kernel_rfl)
theorem kpd1:pDs kW1 24 [] 0=some (.ok (kL1,23)):=by kernel_rfl
theorem kpd2:pDs kW2 9 [] 0=some (.ok (kL2,8)):=by kernel_rfl
theorem kde1:deDeep kL1=none:=by kernel_rfl
theorem kde2:deDeep kL2=none:=by kernel_rfl
theorem kpa1:parseR kT1=(kL1,(0,0),0):=by unfold parseR;rw[klex1];dsimp only;rw[if_pos rfl,show kW1.length+1=24 from rfl,kpd1];dsimp only;rw[kde1]
theorem kpa2:parseR kT2=(kL2,(0,0),0):=by unfold parseR;rw[klex2];dsimp only;rw[if_pos rfl,show kW2.length+1=9 from rfl,kpd2];dsimp only;rw[kde2]
def fiR(l:List De):Pg× (Int×Int)×Int:=if desR isName l=true then findR l else (zPg,(0,0),2)
theorem kmay1:desR isName kL1=true:=by kernel_rfl
theorem kmay2:desR isName kL2=true:=by kernel_rfl
theorem kfi1:(findR kL1).2=((0,0),0)/\(findR kL1).1.stmts=3/\(findR kL1).1.vars.length=1/\((findR kL1).1.threads.map (·.locals))=[1]:=⟨by kernel_rfl,by kernel_rfl,by kernel_rfl,by kernel_rfl⟩
theorem kfi2:findR kL2=(zPg,(1,15),131):=by kernel_rfl
theorem ktx1:textR fiR kT1=findR kL1:=by unfold textR fiR;rw[kpa1];simp only[kmay1];rfl
theorem ktx2:textR fiR kT2=(zPg,(1,15),131):=by unfold textR fiR;rw[kpa2];simp only[kmay2,kfi2];rfl
end Go.Proofs.YtgppcdfgdaggjaaGreatDoor
