/- Texts laid together. No condition but what each law says. -/
import Derived.Test.YtgppcdfgdaggjaaGreatDoorN18
import Derived.Test.YtgppcdfgdaggjaaGreatDoorN16
set_option maxRecDepth 100000
set_option maxHeartbeats 16000000
namespace Go.Proofs.YtgppcdfgdaggjaaGreatDoor
open Go.RowKit Go.Maps Go.Proofs.Tryz
open Go renaming Value→Fr,TypeId→GA,World→Fk,Calls→Jq,bodyPost→Gb,undef→Gm,TypeInfo→Ic,execOp→HC,wpList→GY,Program→Hu,yielded→Hp,run_underlying→Hg
open List renaming mem_cons→FQ,not_mem_nil→FO,getD_eq_getElem?_getD→FD,getElem?_eq_getElem→FC,getElem?_eq_some_iff→FW,mem_iff_getElem→HX,map_nil→IP,map_toArray→Jb,getElem?_append_right→Gj,getElem_mem→Gy,mem_of_find?_eq_some→Gl,mem_range→Iq,range→GU,cons_append→GM,find?_some→He,all_eq_true→GC,length_eq_zero_iff→Hf
open Go.World renaming block_lt_of_cell?→FF,cell?→FI,setCells→Ir,setCell→Gc
open Go.RowKit.Below renaming refl→FB
open Go.IntWalk renaming wrap64_in→Gi
open Option renaming getD_some→HS,map_eq_some_iff→Ga
open Go.RowKit renaming Below→FM
open Go.Oper renaming wp→It
open Go.Result renaming andThen_ok→Hv,andThen→Hr
open Go.Sem renaming run_bind→Ia
open Nat renaming le_of_eq→GB,mul_comm→Jc,zero_add→GE,zero_le→FX
open Bool renaming and_eq_true→FG,false_eq_true→FN
open Go.Region renaming Mode→GS,free→GI,noSelect→Gt,ready→FP,wanted→Gh
open Or renaming inl→GJ
open Go.Act renaming put→Gf
open Go.Value renaming ownBlock→GF,int→Gr
open Ne renaming symm→Gp
open _root_.Array renaming setIfInBounds_comm→Gq
open And renaming intro→EQ
open Except renaming map→Jo
open Go.MapKept renaming IsKey→GQ,run_checkKey→GR,run_findKey→GW,run_getObj_map→GK,heap_set→Iv,run_setObj_map→HN
open Go.Instr renaming findNow→Hc,lookup→Hx,mapUpdate→HJ
open Go.Builtin renaming delete_→Ji
variable {U V W w:Fk}{v v0 v1 v2 v3 v4 v5 v6 v7:Fr}{b g i j k m n n0 n1 n2 n5:Nat}{A:Act}{l2 l3:List Fr}{a a0:Option Addr}{s t:ByteArray}{e:Ex}{p0 p1:Int}
instance:Inhabited Nm:=⟨⟨aq,0,0⟩⟩
def hA:Nm:=⟨aq,0,0⟩
def Nm.cells(x:Nm):List Fr:=[.string x.text,.int .i64 (x.kind:Int),.int .i64 (x.slot:Int)]
def ma:El Nm:=⟨114,3,fun _ _ cs x=>cs=x.cells,fun _ h=>h,fun _ h=>h,fun h=>by
 subst h
 refine⟨z,fun v hv=>?_⟩
 simp only[Nm.cells,FQ,FO,or_false]at hv
 rcases hv with rfl|rfl|rfl<;>rfl,fun h=>h⟩
def lg(ty:GA):El Int:=⟨ty,1,fun _ _ cs x=>cs=[.int .i64 x],fun _ h=>h,fun _ h=>h,fun h=>by
 subst h
 refine⟨z,fun v hv=>?_⟩
 simp only[FQ,FO,or_false]at hv
 subst hv
 rfl,fun h=>h⟩
def fl:El ByteArray:=⟨9,1,fun _ _ cs x=>cs=[.string x],fun _ h=>h,fun _ h=>h,fun h=>by
 subst h
 refine⟨z,fun v hv=>?_⟩
 simp only[FQ,FO,or_false]at hv
 subst hv
 rfl,fun h=>h⟩
def Th.L(ok:Nat->Prop)(w:Fk)(cs:List Fr)(x:Th):Prop:=∃ (a:Option Addr) (cap:Nat),cs=[.string x.name,.int .i64 (x.locals:Int),.slice a x.body.length cap]/\aF x.body.length cap/\aE ok w a 0 x.body
def gh:El Th:=⟨71,3,Th.L,fun h1 ⟨a,cap,h2,h3,h4⟩=>⟨a,cap,h2,h3,h4.keep h1⟩,fun h1 ⟨a,cap,h2,h3,h4⟩=>⟨a,cap,h2,h3,h4.CQ h1⟩,fun ⟨a,cap,h2,h3,h4⟩=>by
 subst h2
 refine⟨z,fun v hv=>?_⟩
 simp only[FQ,FO,or_false]at hv
 rcases hv with rfl|rfl|rfl<;>rfl,fun ⟨a,cap,h2,h3,h4⟩=>⟨a,cap,h2,h3,h4.bound⟩⟩
variable {α:Type}
def Ro(E:El α)(ok:Nat->Prop)(w:Fk)(v:Fr)(l:List α):Prop:=∃ (a:Option Addr) (cap:Nat),v= .slice a l.length cap/\aF l.length cap/\
 ∀j x,l[j]? =some x->∃ (b off:Nat) (cs:List Fr),a=some ⟨b,off,none⟩/\ok b/\w.rangeAt b (off+j*E.sz) cs/\E.L ok w cs x
theorem Ro.keep{E:El α}{ok:Nat->Prop}{w':Fk}{l:List α}(A:∀ (b o:Nat) (u:Fr),ok b->w.cell? (ad b o)=some u->w'.cell? (ad b o)=some u)(h:Ro E ok w v l):Ro E ok w' v l:=by
 let ⟨a,cap,M,G,F⟩:=h
 refine⟨a,cap,M,G,fun j x N=>?_⟩;let ⟨b,C,cs,K,g,J,H⟩:=F j x N
 exact⟨b,C,cs,K,g,fun t u D=>A _ _ _ g (J t u D),E.keep A H⟩
theorem ai{w':Fk}(j:bL w w')(b o:Nat)(u:Fr)(g:w.cell? (ad b o)=some u):w'.cell? (ad b o)=some u:=by rw[<-g];simp[FI,j.block b (FF w _ g)]
theorem Ro.CQ{E:El α}{ok ok':Nat->Prop}{l:List α}(g:∀b,ok b->ok' b)(h:Ro E ok w v l):Ro E ok' w v l:=by
 let ⟨a,cap,K,F,C⟩:=h
 refine⟨a,cap,K,F,fun j x M=>?_⟩;let ⟨b,A,cs,J,D,H,G⟩:=C j x M
 exact⟨b,A,cs,J,g _ D,H,E.CQ g G⟩
theorem Ro.nil(E:El α)(ok:Nat->Prop)(w:Fk):Ro E ok w (.slice none 0 0) []:=⟨none,0,z,⟨rl,by decide⟩,fun j x g=>by simp at g⟩
theorem Ro.of{E:El α}{B:Nat}{l:List α}(h:aL E B w v l):Ro E (B<=·) w v l:=by
 obtain⟨a,cap,rfl,D⟩:=h.form;refine⟨a,cap,z,D,fun j x H=>?_⟩;let ⟨b,g,cs,A,G,C,F⟩:=h.at j x H
 exact⟨b,g,cs,A,G,C,F⟩
structure DF where
 P:Pg
 names:List Nm
 cells:Int
 locals:Nat
 CY:Nat
 pos:Int×Int
 CR:Int
variable {D D0:DF}
structure pu (ok:Nat->Prop) (w:Fk) (P:Pg) (v0 v1 v4 v5 n0 n1 n2 n3 n4:Fr):Prop where
 vars:Ro (lg 2) ok w v0 P.vars
 CW:Ro (lg 3) ok w v1 P.CW
 CX:Ro (lg 3) ok w v4 P.CX
 threads:Ro gh ok w v5 P.threads
 nv:Ro fl ok w n0 P.nv
 na:Ro fl ok w n1 P.na
 nm:Ro fl ok w n2 P.nm
 nc:Ro fl ok w n3 P.nc
 nh:Ro fl ok w n4 P.nh
theorem pu.keep{ok:Nat->Prop}{w':Fk}{P:Pg}{n1 n2 n3 n4:Fr}(g:∀ (b o:Nat) (u:Fr),ok b->w.cell? (ad b o)=some u->w'.cell? (ad b o)=some u)(h:pu ok w P v0 v1 v2 v3 v4 n1 n2 n3 n4):pu ok w' P v0 v1 v2 v3 v4 n1 n2 n3 n4:=
 ⟨h.vars.keep g,h.CW.keep g,h.CX.keep g,h.threads.keep g,h.nv.keep g,h.na.keep g,h.nm.keep g,h.nc.keep g,h.nh.keep g⟩
theorem pu.CQ{ok ok':Nat->Prop}{P:Pg}{n1 n2 n3 n4:Fr}(g:∀b,ok b->ok' b)(h:pu ok w P v0 v1 v2 v3 v4 n1 n2 n3 n4):pu ok' w P v0 v1 v2 v3 v4 n1 n2 n3 n4:=
 ⟨h.vars.CQ g,h.CW.CQ g,h.CX.CQ g,h.threads.CQ g,h.nv.CQ g,h.na.CQ g,h.nm.CQ g,h.nc.CQ g,h.nh.CQ g⟩
def fU(P:Pg)(v0 v1 v4 v5 n0 n1 n2 n3 n4:Fr)(r:List Fr):List Fr:=v0::v1:: .int .i64 (P.CT:Int):: .int .i64 (P.conds:Int)::v4::v5:: .int .i64 (P.main:Int):: .int .i64 (P.stmts:Int)::n0::n1::n2::n3::n4::r
def Ab(D:DF)(v0 v1 v4 v5 n0 n1 n2 n3 n4 vn:Fr):List Fr:=fU D.P v0 v1 v4 v5 n0 n1 n2 n3 n4 [vn,.int .i64 D.cells,.int .i64 (D.locals:Int),.int .i64 (D.CY:Int),.int .i64 D.pos.1,.int .i64 D.pos.2,.int .i64 D.CR]
def aG(ok:Nat->Prop)(w:Fk)(D:DF)(cs:List Fr):Prop:=∃v0 v1 v4 v5 n0 n1 n2 n3 n4 vn,cs=Ab D v0 v1 v4 v5 n0 n1 n2 n3 n4 vn/\pu ok w D.P v0 v1 v4 v5 n0 n1 n2 n3 n4/\Ro ma ok w vn D.names
theorem aG.keep{ok:Nat->Prop}{w':Fk}{cs:List Fr}(g:∀ (b o:Nat) (u:Fr),ok b->w.cell? (ad b o)=some u->w'.cell? (ad b o)=some u)(h:aG ok w D cs):aG ok w' D cs:=by
 let ⟨K,G,C,j,E,n1,n2,n3,n4,A,J,H,F⟩:=h
 exact⟨K,G,C,j,E,n1,n2,n3,n4,A,J,H.keep g,F.keep g⟩
theorem aG.below{ok:Nat->Prop}{w':Fk}{cs:List Fr}(h:aG ok w D cs)(j:bL w w'):aG ok w' D cs:=h.keep fun b o u _ g=>ai j b o u g
theorem aG.CQ{ok ok':Nat->Prop}{cs:List Fr}(g:∀b,ok b->ok' b)(h:aG ok w D cs):aG ok' w D cs:=by
 let ⟨K,G,C,j,E,n1,n2,n3,n4,A,J,H,F⟩:=h
 exact⟨K,G,C,j,E,n1,n2,n3,n4,A,J,H.CQ g,F.CQ g⟩
def pp(L:List Nm)(s:ByteArray):Nat->Option Nat
 |0=>none
 |n+1=>if (L.getD n hA).text=s then some n else pp L s n
def DF.at(D:DF)(s:ByteArray):Option Nat:=pp D.names s D.names.length
def qN:Option Nat->Int
 |none=> -1
 |some n=>n
def DF.DA(D:DF)(why:Int)(p:Int×Int):DF:=if D.CR=0 then {D with CR:=why,pos:=p} else D
def DF.CZ(D:DF)(s:ByteArray)(a b:Nat)(p:Int×Int):DF×Nm:=match D.at s with
 |none=> (D.DA 131 p,hA)
 |some i=>if (D.names.getD i hA).kind≠a/\(D.names.getD i hA).kind≠b then (D.DA 132 p,hA) else (D,D.names.getD i hA)
def eu(k:Int):Nat×Nat:=if k=2 then (1,100) else if k=3 then (2,2) else if k=6∨k=7 then (3,3) else if k=8∨k=9∨k=10 then (4,4) else if k=11∨k=12 then (5,5) else if k=13 then (6,6) else (0,0)
theorem rx(k:Int)(w:Fk):Jq prog 119 #[I k] w fun e w'=>e= .returned (.tuple #[I ((eu k).1:Int),I ((eu k).2:Int)])/\w'=w:=by unfold eu;go_in;go_wp2;all_goals exact bodyPost_ret (by simp[results,go_sem];rfl) z (by simp_all)
theorem jA(D:DF)(s:ByteArray)(ok:Nat->Prop)(cs:List Fr)(w:Fk)(h:aG ok w D cs):Jq prog 40 #[.agg cs.toArray,.string s] w fun e w'=>e= .returned (I (qN (D.at s)))/\bL w w':=by
 obtain⟨X,W,V,N,U,n1,n2,n3,n4,vn,rfl,-,a,cap,rfl,G,Q⟩:=h;unfold DF.at;let ⟨L,hL⟩:=eX (D.names)
 rw[hL]at G Q ⊢;let ⟨R,M⟩:=eX (pp L s L.length)
 let ⟨g,hN⟩:=eX (L.length)
 rw[hN]at G M ⊢;have C:=O M;rw[M];clear M;unfold Ab fU;go_in;go_wp2;have a0:ak (w.alloc (.cells #[X,W,I D.P.CT,I D.P.conds,V,N,I D.P.main,I D.P.stmts,U,n1,n2,n3,n4,.slice a g cap,I D.cells,I D.locals,I D.CY,I D.pos.1,I D.pos.2,I D.CR] 109)) w.1.size 109 [X,W,I D.P.CT,I D.P.conds,V,N,I D.P.main,I D.P.stmts,U,n1,n2,n3,n4,.slice a g cap,I D.cells,I D.locals,I D.CY,I D.pos.1,I D.pos.2,I D.CR]:=ak.new _ _ _;have c13:=a0.cell 13;simp only[List.getElem?_cons_succ,List.getElem?_cons_zero]at c13;have S:bL w (w.alloc (.cells #[X,W,I D.P.CT,I D.P.conds,V,N,I D.P.main,I D.P.stmts,U,n1,n2,n3,n4,.slice a g cap,I D.cells,I D.locals,I D.CY,I D.pos.1,I D.pos.2,I D.CR] 109)):=(FB _ w).alloc rl _;clear a0;generalize (w.alloc _)=Z at *
 have a1:∀j,j<g->∃b E,a=some (ad b E)/\Z.cell? (ad b (E+j*3))=some (.string (L.getD j hA).text):=fun j hj=>by obtain⟨x,hx⟩:∃x,L[j]? =some x:=⟨_,FC (by omega)⟩;obtain⟨b,E,cs,a7,-,h2,F⟩:=Q j x hx;obtain rfl:cs=x.cells:=F;have A:=h2 0 (.string x.text) z;refine⟨b,E,a7,?_⟩;rw[FD,hx,HS,<-show w.cell? (ad b (E+j*3))=some (.string x.text) from A];simp[FI,S.block b (FF w _ A)]
 have a2:=O a1;have Y:=O S;clear Q a1 S hN hL;go_loopg [5] g (fun x iv wr=>∃n:Nat,x=n/\n<=g/\iv=I ((n:Int)-1)/\wr=Z/\Hid (pp L s n=R));case atStart=>exact⟨g,z,rl,by have a7:=G.1;have h2:=G.2;rw[Gi _ (by omega)],z,C⟩
 case round=>
  clear C;obtain⟨n,rfl,hn,rfl,rfl,C⟩:=hrel;cases gk with
  |zero=>
   have h0:¬ (0:Int)<=((0:Nat):Int)-1:=by omega
   obtain rfl:R=none:=C.symm;go_wp2;go_ret;exact⟨z,Y⟩
  |succ n=>
   have a6:=G.1;have a4:=G.2;have e1:((n+1:Nat):Int)-1=(n:Int):=by omega
   rw[e1];have h0:(0:Int)<=(n:Int):=by omega
   have a5:(n:Int)< (g:Int):=by omega
   obtain⟨b,E,rfl,hc⟩:=a2 n (by omega);let ⟨t,K⟩:=eX ((L.getD n hA).text)
   have F:=C.o;rw[pp,K]at F;rw[K]at hc;have A:=F;have J:=(mQ t s).symm;let ⟨q,hq⟩:=eX ((t.toList==s.toList))
   rw[hq]at J;cases q with
   |true=>
    have H:=of_decide_eq_true J.symm;rw[aD H]at A;subst A;clear F H J K C;go_wp2;go_ret;exact⟨z,Y⟩
   |false=>
    have H:=of_decide_eq_false J.symm;rw[am H]at A;have a3:=O A;clear F A H J K C;go_wp2;go_roundg n;case measure=>omega
    case rel=>exact⟨n,z,by omega,z,z,a3⟩
theorem aj:(prog.info? 109).map (·.size)=some 20:=by kernel_rfl
theorem cd:∃d,prog.underlying 109=some d/\d.isRow=true:=by
 have h:(prog.underlying 109).map (·.isRow)=some true:=by kernel_rfl
 let ⟨d,j,g⟩:=Ga.1 h
 exact⟨d,j,g⟩
theorem cN:(prog.info? 114).map (·.size)=some 3:=by kernel_rfl
theorem hY:∃d,prog.underlying 114=some d/\d.isRow=true:=by
 have h:(prog.underlying 114).map (·.isRow)=some true:=by kernel_rfl
 let ⟨d,j,g⟩:=Ga.1 h
 exact⟨d,j,g⟩
def nx:List Fr:=[.slice none 0 0,.slice none 0 0,.int .i64 0,.int .i64 0,.slice none 0 0,.slice none 0 0,.int .i64 0,.int .i64 0,.slice none 0 0,.slice none 0 0,.slice none 0 0,.slice none 0 0,.slice none 0 0,.slice none 0 0,.int .i64 0,.int .i64 0,.int .i64 0,.int .i64 0,.int .i64 0,.int .i64 0]
variable {α:Type}
theorem Ro.one{E:El α}{ok:Nat->Prop}{l:List α}(h:Ro E ok w v l):v.oneCell'=true:=by obtain⟨a,cap,rfl,-⟩:=h;rfl
theorem xl{ok:Nat->Prop}{n1 n2 n3 n4:Fr}(h:pu ok w D.P v0 v1 v2 v3 v4 n1 n2 n3 n4)(j:Ro ma ok w v5 D.names):(Ab D v0 v1 v2 v3 v4 n1 n2 n3 n4 v5).length=20/\∀v∈Ab D v0 v1 v2 v3 v4 n1 n2 n3 n4 v5,v.oneCell'=true:=by refine⟨z,fun v g=>?_⟩;simp only[Ab,fU,FQ,FO,or_false]at g;rcases g with rfl|rfl|rfl|rfl|rfl|rfl|rfl|rfl|rfl|rfl|rfl|rfl|rfl|rfl|rfl|rfl|rfl|rfl|rfl|rfl;all_goals first|rfl|exact h.vars.one|exact h.CW.one|exact h.CX.one|exact h.threads.one|exact h.nv.one|exact h.na.one|exact h.nm.one|exact h.nc.one|exact h.nh.one|exact j.one
theorem aG.cells{ok:Nat->Prop}{cs:List Fr}(h:aG ok w D cs):cs.length=20/\∀v∈cs,v.oneCell'=true:=by obtain⟨H,C,G,F,A,n1,n2,n3,n4,E,rfl,j,g⟩:=h;exact xl j g
theorem aG.c19{ok:Nat->Prop}{cs:List Fr}(h:aG ok w D cs):cs[19]? =some (I D.CR):=by obtain⟨F,j,E,C,g,n1,n2,n3,n4,A,rfl,-⟩:=h;rfl
theorem aG.c17{ok:Nat->Prop}{cs:List Fr}(h:aG ok w D cs):cs[17]? =some (I D.pos.1):=by obtain⟨F,j,E,C,g,n1,n2,n3,n4,A,rfl,-⟩:=h;rfl
theorem aG.c18{ok:Nat->Prop}{cs:List Fr}(h:aG ok w D cs):cs[18]? =some (I D.pos.2):=by obtain⟨F,j,E,C,g,n1,n2,n3,n4,A,rfl,-⟩:=h;rfl
theorem aG.CR{ok:Nat->Prop}{cs:List Fr}(h:aG ok w D cs)(g:Int)(p:Int×Int):aG ok w {D with CR:=g,pos:=p} (((cs.set 19 (I g)).set 17 (I p.1)).set 18 (I p.2)):=by obtain⟨J,C,H,G,j,n1,n2,n3,n4,E,rfl,F,A⟩:=h;exact⟨J,C,H,G,j,n1,n2,n3,n4,E,z,F,A⟩
theorem Below.setRow{B:Nat}{a:Fk}(g:B<=b):∀ (vs:List Fr) (o:Nat) {w:Fk},FM B a w->FM B a (w.setCells b o vs)
 | [],_,_,h=>h
 |v::l,o,w,h=>by
  rw[Ir]
  exact Below.setRow g l (o+1) (h.setCell (p:=(ad b o)) g v)
theorem bP(D:DF)(ok:Nat->Prop)(j:Int)(p:Int×Int)(cs:List Fr)(w:Fk)(h:aG ok w D cs):Jq prog 41 #[.agg cs.toArray,I j,.agg #[I p.1,I p.2]] w fun e w'=> (∃ds,e= .returned (.agg ds.toArray)/\aG ok w' (D.DA j p) ds)/\bL w w':=by
 let ⟨du,Y,N⟩:=cd
 let ⟨fl,a6⟩:=eX (D.CR)
 have K:=h.c19;have X:=h.c17;have S:=h.c18;rw[a6]at K;generalize D.pos.1=qx at X;generalize D.pos.2=qy at S;let ⟨g,pc⟩:=p
 have a7:=ak.new w 109 cs;have W:=h.cells.1;let ⟨a4,hA⟩:=eX (cs.toArray)
 have G:=O h;have a0:bL w (((w.alloc (.cells cs.toArray 109)).alloc (.cells #[I g,I pc] 32)).alloc (.cells nx.toArray 109)):=(((FB _ w).alloc rl _).alloc (by simp) _).alloc (by simp;omega) _;have a2:=(a7.alloc (.cells #[I g,I pc] 32)).alloc (.cells nx.toArray 109);have R:=ak.new ((w.alloc (.cells cs.toArray 109)).alloc (.cells #[I g,I pc] 32)) 109 nx;have Q:=(ak.new (w.alloc (.cells cs.toArray 109)) 32 [I g,I pc]).alloc (.cells nx.toArray 109);have e0:(w.alloc (.cells cs.toArray 109)).1.size=w.1.size+1:=by simp
 have e1:((w.alloc (.cells cs.toArray 109)).alloc (.cells #[I g,I pc] 32)).1.size=w.1.size+1+1:=by simp
 rw[e1]at R;rw[e0]at Q;clear e0 e1 a7 h hA a4;unfold nx at a0 a2 R Q;have U:=O a0;have A:=O a2;have Z:=O R;have V:=O Q;clear a0 a2 R Q;go_in;refine wk fun K1 a9=>?_;go_wp2;apply a9;clear a9 K1;generalize ((w.alloc _).alloc _).alloc _=C at *;have c19:C.cell? (ad w.1.size 19)=some (I fl):=by rw[A.o.cell];exact K
 by_cases hf:fl=0
 .subst hf;have c17:C.cell? (ad w.1.size 17)=some (I qx):=by rw[A.o.cell];exact X
  have c18:C.cell? (ad w.1.size 18)=some (I qy):=by rw[A.o.cell];exact S
  have b5:=A.frozen 19;have b6:=A.frozen 17;have b4:=A.frozen 18;have p0:C.cell? (ad (w.1.size+1) 0)=some (I g):=by rw[V.o.cell];rfl
  have p1:C.cell? (ad (w.1.size+1) 1)=some (I pc):=by rw[V.o.cell];rfl
  go_wp2;go_region;have hW:ak ((((C.setCell ⟨w.1.size,19,none⟩ (I j)).setCell ⟨w.1.size,17,none⟩ (I g)).setCell (ad w.1.size 18) (I pc)).drew) w.1.size 109 (((cs.set 19 (I j)).set 17 (I g)).set 18 (I pc)):=(((A.set1 19 _).set1 17 _).set1 18 _).drew;have hZ:=(((Z.other (r:=w.1.size) (by omega) 19 (I j)).other (r:=w.1.size) (by omega) 17 (I g)).other (r:=w.1.size) (by omega) 18 (I pc)).drew;have a8:FM w.1.size w (((C.setCell ⟨w.1.size,19,none⟩ (I j)).setCell ⟨w.1.size,17,none⟩ (I g)).setCell ⟨w.1.size,18,none⟩ (I pc)).drew:=(((U.o.setCell rl _).setCell rl _).setCell rl _).drew;have F:=G.CR j (g,pc);rw[<-show D.DA j (g,pc)={D with CR:=j,pos:=(g,pc)} from aD a6]at F
  generalize (((C.setCell _ _).setCell _ _).setCell _ _).drew=W4 at *;obtain⟨DS,J⟩:∃DS,((cs.set 19 (I j)).set 17 (I g)).set 18 (I pc)=DS:=⟨_,z⟩;rw[J]at hW F;have a5:=O hW;have M:=O hZ;have E:=F.cells.1;have HO:=O F.cells.2;have a3:=O F;have H:Hid (FM w.1.size w (W4.setCells (w.1.size+1+1) 0 DS)):=O (Below.setRow (by omega) DS 0 a8);clear hW hZ a8 F J c19 c17 c18 b5 b6 b4 p0 p1 A Z V U G X S K W;go_wp2_with (first| (with_reducible refine l0 109 ?_;refine ac Y N aj z (.tmp 3) z w.1.size DS z a5 E ?_)| (with_reducible refine s0 109 ?_;refine ab aj z (.tmp 6) (.tmp 14) z (w.1.size+1+1) DS _ z z M z E HO.o ?_));have a1:=M.o.DK (vs:=DS) (by rw[E];rfl);refine aC Y N aj a1 E z z z ⟨⟨DS,z,?_⟩,?_⟩
  .exact a3.below (H)
  .exact H
 .obtain⟨DS,J⟩:∃DS,cs=DS:=⟨_,z⟩;rw[J]at A G K W;have a5:=A;have M:=Z;have E:=W;have HO:=O G.cells.2;have a3:Hid (aG ok w (D.DA j (g,pc)) DS):=O (by rw[show D.DA j (g,pc)=D from am (by rw[a6];exact hf)];exact G);have H:Hid (FM w.1.size w (C.setCells (w.1.size+1+1) 0 DS)):=O (Below.setRow (by omega) DS 0 U.o);clear A Z V U G X S K W J;go_wp2_with (first| (with_reducible refine l0 109 ?_;refine ac Y N aj z (.tmp 3) z w.1.size DS z a5 E ?_)| (with_reducible refine s0 109 ?_;refine ab aj z (.tmp 6) (.tmp 14) z (w.1.size+1+1) DS _ z z M z E HO.o ?_));have a1:=M.o.DK (vs:=DS) (by rw[E];rfl);refine aC Y N aj a1 E z z z ⟨⟨DS,z,?_⟩,?_⟩
  .exact a3.below (H)
  .exact H
theorem ge{T g:GA}{d j:TypeDesc}(U:prog.underlying T=some d)(E:d.isRow=true)(G:(prog.info? T).map (·.size)=some n)(C:prog.underlying g=some j)(S:j.isRow=true)(V:(prog.info? g).map (·.size)=some n2){w:Func}{R:Ending->Fk->Prop}{b2:Nat}{s s2:Tmp}{cs:List Fr}(h:ak W b T cs)(X:cs.length=n)(K:ak W b2 g l2)(D:l2.length=n2)(J:w.results= #[.cell s T,.cell s2 g])
  (N:A.tmps.getD s Gm=Pt b)(F:A.tmps.getD s2 Gm=Pt b2)(hd:A.defers=[])(Z:R (.returned (.tuple #[.agg cs.toArray,.agg l2.toArray])) W):Gb prog w R .ret A W:=by
 have H:A.tmps[s]?.getD Gm=Pt b:=by rw[<-N];simp
 have Q:A.tmps[s2]?.getD Gm=Pt b2:=by rw[<-F];simp
 have Y:=run_loadVar_mid (P:=prog) W b 0 T cs d h.whole U E (by rw[X];exact G);have M:=run_loadVar_mid (P:=prog) W b2 0 g l2 j K.whole C S (by rw[D];exact V);refine bodyPost_ret (v:= .tuple #[.agg cs.toArray,.agg l2.toArray]) ?_ hd Z;simp[results,J,H,Q,asAddr,Y,M]
theorem ln{r:Nat}(g:b≠r)(vs:List Fr)(o k:Nat):(w.setCells r o vs).cell? (ad b k)=w.cell? (ad b k):=by simp[FI,au g]
theorem hu{r:Nat}:∀ (vs:List Fr) (o:Nat) (w:Fk),(w.setCells r o vs).1.size=w.1.size
 | [],_,_=>rfl
 |v::l,o,w=>by
  rw[Ir,hu l]
  simp
def Ch(b:Nat)(w w':Fk):Prop:=∃o vs,w'=w.setCells b o vs
section
variable {w w' w0:Fk} {b c:Nat}
theorem Ch.size(h:Ch b w w'):w'.1.size=w.1.size:=by obtain⟨o,vs,rfl⟩:=h;exact hu _ _ _
theorem Ch.cell(h:Ch b w w')(g:c≠b)(o:Nat):w'.cell? (ad c o)=w.cell? (ad c o):=by obtain⟨_,vs,rfl⟩:=h;exact ln g _ _ _
theorem Ch.CV(h:Ch b w w')(g:c≠b){T:GA}{C:List Fr}(j:ak w c T C):ak w' c T C:=by obtain⟨_,vs,rfl⟩:=h;exact j.of (au g _ _ _)
theorem Ch.below(h:Ch b w w'){B:Nat}(g:B<=b)(j:FM B w0 w):FM B w0 w':=by obtain⟨_,vs,rfl⟩:=h;exact Below.setRow g _ _ j
theorem Ch.df(h:Ch b w w'){ok:Nat->Prop}(g:¬ok b){cs:List Fr}(A:aG ok w D cs):aG ok w' D cs:=A.keep fun c o u C j=>by rw[h.cell (fun e=>g (e▸C))];exact j
theorem Ch.one(j:Nat)(v:Fr)(w:Fk):Ch b w (w.setCell (ad b j) v):=⟨j,[v],z⟩
end
theorem aw{o:Oper}{a:Act}{j:Act->Fk->Prop}{G:Exit->Act->Fk->Prop}{T:GA}{i:Ic}{z:Fr}{C:List Fr}(J:prog.info? T=some i)(D:i.zero=some z)(F:z.cells=C.toArray)(A:o.op= .alloc T)
  (g:Nat)(K:w.1.size=g)(h:∀W,ak W g T C->bL w W->W.1.size=g+1->j (a.put o.dst (Pt g)) W):It prog o a w j G:=by
 subst K;have H:=h (w.alloc (.cells C.toArray T)) (ak.new w T C) ((FB _ w).alloc rl _) (by simp);have E:(Instr.alloc T true (.tuple #[])).run prog w= .ok (Pt w.1.size) (w.alloc (.cells C.toArray T)):=by simp only[Instr.alloc,zeroValue,newVar,newRow,Ia,run_typeInfo _ J,Hv,D,Sem.run_pure,run_newObj_alloc,F]
 unfold It HC;simp only[A,Ia,E,Hv];exact H
theorem ag{A:Array Oper}{D:List Oper}{o:Oper}{a:Act}{j:Exit->Act->Fk->Prop}{T:GA}{i:Ic}{z:Fr}{C:List Fr}(H:prog.info? T=some i)(E:i.zero=some z)(K:z.cells=C.toArray)(G:o.guard=none)(F:o.op= .alloc T)
  (g:Nat)(R:w.1.size=g)(h:∀W,ak W g T C->bL w W->W.1.size=g+1->GY prog A j D (a.put o.dst (Pt g)) W):GY prog A j (o::D) a w:=
 wpList_plain G fun _ Q=>aw H E K F g R fun W N M J=>Q _ _ (h W N M J)
theorem aJ{A:Array Oper}{D:List Oper}{o:Oper}{a:Act}{j:Exit->Act->Fk->Prop}{T:GA}(F:o.guard=none)(x:Operand)(E:o.op= .box T x)(C:List Fr)(G:(a.eval x).cells=C.toArray)
  (g:Nat)(K:w.1.size=g)(h:∀W,ak W g T C->bL w W->W.1.size=g+1->GY prog A j D (a.put o.dst (Pt g)) W):GY prog A j (o::D) a w:=by
 subst K;refine wpList_plain F fun M J=>?_;have H:=J _ _ (h (w.alloc (.cells C.toArray T)) (ak.new w T C) ((FB _ w).alloc rl _) (by simp));unfold It HC;simp only[E,Ia,Instr.box,newVar,newRow,run_newObj_alloc,Sem.run_pure,Hv,G];exact H
theorem an{o:Oper}{a:Act}{D:Act->Fk->Prop}{H:Exit->Act->Fk->Prop}{T:GA}(J:(prog.info? T).map (·.size)=some n)(x y:Operand)(E:o.op= .store T x y)
  (b:Nat)(cs C:List Fr)(F:a.eval x=Pt b)(G:a.eval y= .agg cs.toArray)(j:ak w b T C)(A:C.length=n)(g:cs.length=n/\∀v∈cs,v.oneCell'=true)(h:∀W,ak W b T cs->Ch b w W->D (a.put o.dst Gm) W):It prog o a w D H:=
 wp_store_mid T x y E b 0 cs.toArray F G (j.there (by simp[A,g.1])) (by rw[J];simp[g.1]) (all_oneCell_toArray g.2) (by simpa using h _ (j.DK (by rw[g.1,A])) ⟨0,cs,z⟩)
theorem af{j:Array Oper}{A:List Oper}{o:Oper}{a:Act}{g:Exit->Act->Fk->Prop}{T:GA}(H:(prog.info? T).map (·.size)=some n)(F:o.guard=none)(x y:Operand)(E:o.op= .store T x y)
  (b:Nat)(cs C:List Fr)(G:a.eval x=Pt b)(M:a.eval y= .agg cs.toArray)(D:ak w b T C)(K:C.length=n)(J:cs.length=n/\∀v∈cs,v.oneCell'=true)(h:∀W,ak W b T cs->Ch b w W->GY prog j g A (a.put o.dst Gm) W):GY prog j g (o::A) a w:=
 wpList_plain F fun _ R=>an H x y E b cs C G M D K J fun W Q N=>R _ _ (h W Q N)
theorem fH{T:GA}{C:List Fr}(h:(prog.info? T).map (fun i=>i.zero.map (fun z=>z.cells.toList))=some (some C)):∃i z,prog.info? T=some i/\i.zero=some z/\z.cells=C.toArray:=by
 let ⟨i,A,g⟩:=Ga.1 h
 let ⟨z,w,j⟩:=Ga.1 g
 exact⟨i,z,A,w,by rw[<-j]⟩
theorem em:∃i z,prog.info? 109=some i/\i.zero=some z/\z.cells=nx.toArray:=fH (by kernel_rfl)
def AI:List Fr:=[.string ⟨#[]⟩,.int .i64 0,.int .i64 0]
theorem jI:∃i z,prog.info? 114=some i/\i.zero=some z/\z.cells=AI.toArray:=fH (by kernel_rfl)
def yH:List Fr:=[.int .i64 0,.int .i64 0,.string ⟨#[]⟩,.int .i64 0,.bool false,.int .i64 0,.slice none 0 0]
theorem mm:∃i z,prog.info? 58=some i/\i.zero=some z/\z.cells=yH.toArray:=fH (by kernel_rfl)
theorem gj(x:Nm):x.cells.length=3/\∀v∈x.cells,v.oneCell'=true:=⟨z,fun v g=>by simp only[Nm.cells,FQ,FO,or_false]at g;rcases g with rfl|rfl|rfl<;>rfl⟩
def gC:El Ex:=⟨58,7,ExL,fun h1 h2=>ExL.keep h1 h2,fun h1 h2=>ExL.CQ h1 h2,fun h=>h.cells,fun h=>h.bound⟩
theorem aL.DI{B:Nat}{cap:Nat}{l:List Ex}(h:aL gC B w (.slice a n cap) l):ch (B<=·) w a 0 l:=by refine ch.mk fun j F=>?_;obtain⟨b,g,cs,E,C,A,D⟩:=h.at j (l.getD j aT) (by rw[FD,FC F];rfl);exact⟨b,g,cs,E,C,by simpa [gC]using A,D⟩
theorem sS:(prog.info? 58).map (fun i=> (i.zero.map (fun z=>z.cells.size),i.size,decide (i.bytes<=1024)))=some (some 7,7,true):=by kernel_rfl
theorem en:∃d,prog.underlying 58=some d/\d.isRow=true:=by
 have h:(prog.underlying 58).map (·.isRow)=some true:=by kernel_rfl
 let ⟨d,j,g⟩:=Ga.1 h
 exact⟨d,j,g⟩
theorem be:(prog.info? 58).map (·.size)=some 7:=by kernel_rfl
theorem ExL.sub{cs:List Fr}{x:Ex}(h:ExL (fun _=>True) w cs x)(j:bL w W):ExL (fun _=>True) W cs x:=h.keep fun b o v _ g=>ai j b o v g
theorem Ch.ex{w':Fk}(h:Ch b w w'){ok:Nat->Prop}(A:∀c,ok c->c≠b){cs:List Fr}{x:Ex}(g:ExL ok w cs x):ExL ok w' cs x:=g.keep fun c o u C j=>by rw[h.cell (A c C)];exact j
theorem Ch.grow{g:Type}{w':Fk}(h:Ch b w w'){E:El g}{B:Nat}{l:List g}(j:aL E B w v l)(A:b<B):aL E B w' v l:=j.keep (fun c _ C=>by obtain⟨_,vs,rfl⟩:=h;exact au (by omega) _ _ _) (GB h.size.symm)
theorem aM{P:Hu}{g:Array Oper}{E:Exit->Act->Fk->Prop}{C:GS}{F:List Nat}{S:Fk->Prop}(i:Nat)(d:Option Tmp){G:Oper}{D:Array Bool}{a:Act}(J:g[i]? =some G)(hd:G.dst=d)
  (A:(Gt g&& (GI C g D i&& ((FP C g D).contains i&& (cz C g F i&&bM C g D))))=true)
  (M:∀c a w,E (.panic c) (a.put d v) w->E (.panic c) a w)(K:S w)(H:YieldsIf P g S G v a)
  (h:cK P C g E F S j (D.setIfInBounds i true) (a.put d v) w):cK P C g E F S (j+1) D a w:=by
 subst hd;simp only[FG]at A;exact fO i J A.1 A.2.1 A.2.2.1 A.2.2.2.1 A.2.2.2.2 M K H h
theorem cf{P:Hu}{g:Array Oper}{F:Exit->Act->Fk->Prop}{C:GS}{D:List Nat}{S:Fk->Prop}{E:Array Bool}{a:Act}(i:Nat){o:Oper}(K:FP C g E=[i])(H:g[i]? =some o)(J:o.guard=none)
  (h:∀A:Act->Fk->Prop,(∀G w',(D.contains i=false->S w')->cK P C g F D S j (E.setIfInBounds i true) G w'->A G w')->o.wp P a w A F):cK P C g F D S (j+1) E a w:=by
 refine jT i K H fun A M=>?_;rw[aD (by simp[Gh,J])];exact h A M
theorem cj{P:Hu}{C:Array Oper}{F:Exit->Act->Fk->Prop}{E:GS}{D:List Nat}{S:Fk->Prop}{G:Array Bool}{a:Act}(L:List Nat)(J:FP E C G=L)
  (h:∀i∈L,∃o,C[i]? =some o/\o.guard=none/\∀K:Act->Fk->Prop,(∀A w',(D.contains i=false->S w')->cK P E C F D S g (G.setIfInBounds i true) A w'->K A w')->o.wp P a w K F)(X:L≠[]):cK P E C F D S (g+1) G a w:=by
 refine⟨fun N=>absurd (J.symm.trans N) X,fun j H=>?_⟩;rw[J]at H;obtain⟨o,Q,W,M⟩:=h j H;refine wpOp_step Q fun R Y=>?_;rw[aD (by simp[Gh,W])];exact M R fun A w' U V=>Y A w' ⟨U,V⟩
section
variable {P:Hu} {ops:Array Oper} {Q:Exit→Act→Fk→Prop} {md:GS} {late:List Nat} {S:Fk→Prop}
theorem tk(i:Nat)(d:Option Tmp){A:Oper}{g:Array Bool}{a:Act}(H:Hid (S w))
  (h:cK P md ops Q late S j (g.setIfInBounds i true) (a.put d v) w)
  (F:ops[i]? =some A:=by rfl)(hd:A.dst=d:=by rfl)
  (D:(Gt ops&& (GI md ops g i&& ((FP md ops g).contains i&& (cz md ops late i&&bM md ops g))))=true:=by kernel_rfl)
  (J:∀c a w,Q (.panic c) (a.put d v) w->Q (.panic c) a w:=by exact fun _ _ _ h=>h)
  (E:Gh A (Hp ops a.tmps)=true:=by rfl)
  (G:∀w',S w'->(HC a.eval A).run P w'= .ok (.value v) w':=by intro K C;clear C;go_simp;first|with_reducible rfl|rw[am (by omega)]):cK P md ops Q late S (j+1) g a w:=
 aM i d F hd D J H (GJ ⟨E,G⟩) h
theorem tf(F:Fk->Prop)(i:Nat)(d:Option Tmp){A:Oper}{g:Array Bool}{a:Act}(K:Hid (S w))(D:∀w,S w->F w)
  (h:cK P md ops Q late S j (g.setIfInBounds i true) (a.put d v) w)
  (J:ops[i]? =some A:=by rfl)(hd:A.dst=d:=by rfl)
  (C:(Gt ops&& (GI md ops g i&& ((FP md ops g).contains i&& (cz md ops late i&&bM md ops g))))=true:=by kernel_rfl)
  (M:∀c a w,Q (.panic c) (a.put d v) w->Q (.panic c) a w:=by exact fun _ _ _ h=>h)
  (E:Gh A (Hp ops a.tmps)=true:=by rfl)
  (H:∀w',F w'->(HC a.eval A).run P w'= .ok (.value v) w':=by intro R N;go_simp;first|with_reducible rfl|rw[am (by omega)]):cK P md ops Q late S (j+1) g a w:=
 aM i d J hd C M K (GJ ⟨E,fun w' G=>H w' (D w' G)⟩) h
theorem oD{g:Array Bool}{a:Act}(i:Nat){o:Oper}(h:∀C:Act->Fk->Prop,(∀A w',(late.contains i=false->S w')->cK P md ops Q late S j (g.setIfInBounds i true) A w'->C A w')->o.wp P a w C Q)
  (F:FP md ops g=[i]:=by kernel_rfl)(D:ops[i]? =some o:=by rfl)(E:o.guard=none:=by rfl):cK P md ops Q late S (j+1) g a w:=cf i F D E h
theorem tl(i:Nat)(t:Tmp){A:Oper}{g:Array Bool}{a:Act}(N:Hid (S w))(ty:GA)(x b o:Nat)(cs:List Fr)(d:TypeDesc)(J:∀w,S w->w.rangeAt b o cs)
  (G:P.underlying ty=some d)(H:d.isRow=true)(K:(P.info? ty).map (·.size)=some cs.length)(h:cK P md ops Q late S j (g.setIfInBounds i true) (a.put (some t) (.agg cs.toArray)) w)
  (M:ops[i]? =some A:=by rfl)(hd:A.dst=some t:=by rfl)(D:A.op= .load ty (.tmp x):=by rfl)(F:a.eval (.tmp x)= .pointer (some (ad b o)):=by rfl)
  (C:(Gt ops&& (GI md ops g i&& ((FP md ops g).contains i&& (cz md ops late i&&bM md ops g))))=true:=by kernel_rfl)
  (R:∀c a w,Q (.panic c) (a.put (some t) (.agg cs.toArray)) w->Q (.panic c) a w:=by exact fun _ _ _ h=>h)
  (E:Gh A (Hp ops a.tmps)=true:=by rfl):cK P md ops Q late S (j+1) g a w:=
 aM i (some t) M hd C R N (yieldsIf_load_mid E ty (.tmp x) D b o F cs d J G H K) h
theorem nm{g:Array Bool}{a:Act}(h:cK P md ops Q late S j g A w)(C:a=A:=by simp only[Act.put,List.setIfInBounds_toArray,List.set_cons_zero,List.set_cons_succ];rfl):cK P md ops Q late S j g a w:=C▸h
end
variable {α:Type}
theorem Ro.rows{E:El α}{ok:Nat->Prop}{cap:Nat}{l:List α}(h:Ro E ok w (.slice a n cap) l):∃cells:List (List Fr),cells.length=l.length/\∀j cs x,cells[j]? =some cs->l[j]? =some x->∃b g,a=some (ad b g)/\w.rangeAt b (g+j*E.sz) cs/\E.L ok w cs x:=by
 let ⟨N,Q,M,R,G⟩:=h
 cases M;have D:∀j:Fin l.length,∃cs:List Fr,∃b g,a=some (ad b g)/\w.rangeAt b (g+j.1*E.sz) cs/\E.L ok w cs l[j.1]:=fun j=>by obtain⟨b,g,cs,H,-,J,K⟩:=G j.1 l[j.1] (FC j.2);exact⟨cs,b,g,H,J,K⟩
 refine⟨List.ofFn fun j=> (D j).choose,by simp,fun j cs x F A=>?_⟩;have C:=(FW.1 A).1;rw[FC (by simpa using C)]at F;rw[FC C]at A;cases A;cases F;simpa using(D ⟨j,C⟩).choose_spec
theorem tD{E:El α}{ok:Nat->Prop}{l:List α}(B:Nat)(t ty:GA){i:Ic}{z:Fr}(S:prog.underlying t=some (.slice E.ty))(Y:prog.info? E.ty=some i)(hz:i.zero=some z)
  (a7:i.size=E.sz)(a9:z.cells.size=E.sz)(W:0<E.sz)(a6:i.bytes<=1024)(h:Ro E ok w v l)(hL:∀cs x,x∈l->E.L ok w cs x->E.L (fun c=>B<=c/\c<w.1.size) w cs x)(b4:l.length<=10000000)(hB:B<=w.1.size):
  ∃v' w',(Builtin.append_ #[t,t] ty #[.slice none 0 0,v]).run prog w= .ok v' w'/\aL E B w' v' l/\bL w w':=by
 have X:=h;obtain⟨a,cap,rfl,a3,U⟩:=h;rcases a with _|V
 .have hl:l=[]:=by
   rcases l with _|⟨x,r⟩
   .rfl
   .obtain⟨b,F,cs,K,-⟩:=U 0 x rfl;cases K
  subst hl;refine⟨.slice none 0 0,w,?_,aL.nil _ _ _,FB _ _⟩;simp[Builtin.append_,Hg S,sizeOf,typeInfo,Y,Builtin.lenOf,Builtin.firstCells]
 .let ⟨cells,N,G⟩:=X.rows
  have R:∀c∈cells,c.length=E.sz:=fun c A=>by obtain⟨j,M,rfl⟩:=HX.1 A;obtain⟨b,F,-,-,g⟩:=G j _ _ (FC M) (FC (by omega));exact(E.cells g).1
  have a1:cells.flatten.length=l.length*E.sz:=by
   rw[<-N];clear N G U X a3;induction cells with
   |nil=>simp
   |cons c r ih=> rw[List.flatten_cons,List.length_append,R c (by simp),ih (fun c A=>R c (by simp[A])),List.length_cons,Nat.add_mul];omega
  have a2:∀u∈cells.flatten,u.oneCell'=true:=fun u C=>by
   let ⟨c,A,C⟩:=List.mem_flatten.1 C
   obtain⟨j,M,rfl⟩:=HX.1 A;obtain⟨b,F,-,-,g⟩:=G j _ _ (FC M) (FC (by omega));exact(E.cells g).2 u C
  have a5:∀j u,cells.flatten[j]? =some u->w.cell? (V.add j)=some u:=fun j u C=>by
   have a0:j<l.length*E.sz:=by have:=(FW.1 C).1;omega
   have hq:=Nat.div_lt_of_lt_mul (by rw[Jc];exact a0);have Q:j % E.sz<E.sz:=Nat.mod_lt _ W;have a8:j=j/E.sz*E.sz+j % E.sz:=by rw[Jc];exact(Nat.div_add_mod j E.sz).symm
   let ⟨b,F,K,H,g⟩:=G (j/E.sz) _ _ (FC (by omega)) (FC hq)
   cases K;have J:=gq cells (j/E.sz) (j % E.sz) _ R (FC (by omega)) Q;rw[<-a8,C]at J;have D:=H (j % E.sz) u J.symm;have e:F+j=F+j/E.sz*E.sz+j % E.sz:=by omega
   rw[Addr.add_mid,e];exact D
  obtain⟨v',w',Q,H,g,-,D⟩:=run_append_own_at (P:=prog) w B t ty E.ty i z E.sz i.bytes S Y hz a7 rfl a9 W (.slice none 0 0) 0 [] (World.ownsRow_nil _ _ _ _) V l.length cap cells.flatten a1 a5 a2 (by unfold maxLen;omega) (by
   calc (0+l.length)*i.bytes<=10000000*1024:=Nat.mul_le_mul (by omega) a6
    _<=140737488355328:=by decide) hB
  rw[GE,List.nil_append]at H;refine⟨v',w',Q,⟨cells,N,H,fun j cs x a4 Z=>?_⟩,⟨g.os,g.tape,g.output,g.size,fun k hk=>g.block k hk (by simp[GF])⟩⟩;obtain⟨b,F,-,-,J⟩:=G j cs x a4 Z;have h6:=hL cs x (List.mem_of_getElem? Z) J;refine E.CQ (fun c A=>⟨⟨A.1,fun e=>?_⟩,Nat.lt_of_lt_of_le A.2 g.size⟩) (E.keep (fun b o u hb C=>by rw[<-C];simp[FI,g.block b hb.2 (by simp[GF])]) h6)
  rcases D with D|D
  .rw[D]at e;cases e
  .rw[D]at e;cases e;omega
theorem mf{E:El α}{ok:Nat->Prop}{l:List α}{o:Oper}{a:Act}{g:Act->Fk->Prop}{V:Exit->Act->Fk->Prop}(s x:Operand)(t:GA)(j:o.op= .call {callee:= .builtin .append,args:= #[s,x],argTypes:= #[t,t]})(B:Nat){i:Ic}{z:Fr}(A:prog.underlying t=some (.slice E.ty))(H:prog.info? E.ty=some i)(D:i.zero=some z)
  (N:i.size=E.sz)(X:z.cells.size=E.sz)(F:0<E.sz)(J:i.bytes<=1024)(S:a.eval s= .slice none 0 0)(K:a.eval x=v)(h:Ro E ok w v l)(W:∀cs x,x∈l->E.L ok w cs x->E.L (fun c=>B<=c/\c<w.1.size) w cs x)(G:l.length<=10000000)(U:B<=w.1.size)
  (R:∀v' w',aL E B w' v' l->bL w w'->g (a.put o.dst v') w'):o.wp prog a w g V:=by
 let ⟨v',w',M,C,Q⟩:=tD B t o.type A H D N X F J h W G U
 unfold It HC;simp only[j,resolve,invoke,builtin,Ia,Sem.run_pure,Hv,Jb,List.map_cons,IP,S,K,M];exact R v' w' C Q
theorem cw{o:Oper}{a:Act}{U:Act->Fk->Prop}{a7:Exit->Act->Fk->Prop}(E:El α)(s x:Operand)(t:GA)
  (V:o.op= .call {callee:= .builtin .append,args:= #[s,x],argTypes:= #[t,t]})(i:Ic)(z:Fr)(W:prog.underlying t=some (.slice E.ty))(hi:prog.info? E.ty=some i)(hz:i.zero=some z)
  (a4:i.size=E.sz)(a8:z.cells.size=E.sz)(a0:0<E.sz)(a3:i.bytes<=1024)
  (B:Nat)(w:Fk)(v:Fr)(l:List α)(hs:a.eval s=v)(hG:aL E B w v l)(cs:List Fr)(e:α)(S:E.L (fun c=>B<=c/\v.ownBlock≠some c) w cs e)(g0:Nat)(T:GA)(X:ak w g0 T cs)
  (hx:a.eval x= .slice (some (ad g0 0)) 1 1)(b4:l.length<=10000000)(hB:B<=w.1.size)
  (h:∀g cap w',aL E B w' (.slice (some (ad g 0)) (l.length+1) cap) (l++[e])->FM B w w'->(∀c,c<w.1.size->v.ownBlock≠some c->w'.1[c]? =w.1[c]?)->(v.ownBlock=some g∨g=w.1.size)->U (a.put o.dst (.slice (some (ad g 0)) (l.length+1) cap)) w'):o.wp prog a w U a7:=by
 let ⟨cells,K,N,Y⟩:=hG
 have A:=E.cells S;have Z:=N.lt;refine wp_append_lies w s x t V B E.ty i z E.sz i.bytes W hi hz a4 rfl a8 a0 v l.length cells.flatten hs N (ad g0 0) 1 1 cs hx (by rw[A.1,Nat.one_mul]) (fun j u G=>?_) A.2 (by decide) (by unfold maxLen;omega) ?_ hB _ rfl ?_
 .rw[Addr.add_mid,GE,X.cell];exact G
 .calc (l.length+1)*i.bytes<=10000001*1024:=Nat.mul_le_mul (by omega) a3
   _<=140737488355328:=by decide
 .intro g cap w' a6 C M b7;have b6:=C.size;have F:∀c,c<w.1.size->v.ownBlock≠some c->w'.1[c]? =w.1[c]? :=fun c b5 a2=>C.block c (by omega) (fun e=>a2 e.symm);refine h g cap w' ⟨cells++[cs],by simp[K],?_,?_⟩ ⟨C.os,C.tape,C.output,by omega,fun k hk=>F k (by omega) (fun e=>by have:=(Z k e).1;omega)⟩ F M
  .simpa using a6
  .intro j R y hd D;have J:∀ (d:List Fr) (u:α),E.L (fun c=> (B<=c/\v.ownBlock≠some c)/\c<w.1.size) w d u->E.L (fun c=> (B<=c/\(Value.slice (some (ad g 0)) (l.length+1) cap).ownBlock≠some c)/\c<w'.1.size) w' d u:=fun d u G=>
    E.CQ (fun c A=>⟨⟨A.1.1,fun e=>by
     have e2:g=c:=by simpa [GF]using e
     subst e2;rcases M with Q|Q
     .exact A.1.2 Q
     .omega⟩,by omega⟩) (E.keep (fun b o v H hv=>by
      rw[<-hv];simp[FI,F b H.2 H.1.2]) G)
   rcases Nat.lt_or_ge j l.length with hj|hj
   .rw[List.getElem?_append_left (by omega)]at hd D;exact J _ _ (Y j R y hd D)
   .have a9:j<l.length+1:=by have:=(FW.1 D).1;simpa using this
    obtain rfl:j=l.length:=by omega
    have a5:R=cs:=by rw[Gj (by omega),K]at hd;simpa using hd.symm
    have a1:y=e:=by rw[Gj rl]at D;simpa using D.symm
    subst a5;subst a1;refine J _ _ (E.bound S)
theorem aA{o:Oper}{a:Act}{A:Act->Fk->Prop}{K:Exit->Act->Fk->Prop}{T:GA}(N:(prog.info? T).map (·.size)=some 1)(x y:Operand)(D:o.op= .store T x y)
  (b k:Nat)(j:GA)(v:Fr)(C:List Fr)(E:a.eval x= .pointer (some (ad b k)))(J:a.eval y=v)(H:v.cells= #[v])(M:v.oneCell'=true)(g:ak w b j C)(Q:k<C.length)(h:∀W,ak W b j (C.set k v)->Ch b w W->A (a.put o.dst Gm) W):It prog o a w A K:=by
 have G:=run_storeVar_mid (P:=prog) w b k T #[v] (g.there (by simp;omega)) (by rw[N];rfl) (by simpa using M);have F:(storeVar T (ad b k) v).run prog w= .ok () (w.setCell (ad b k) v):=by
  have e:storeVar T (ad b k) v=storeVar T (ad b k) (.agg #[v]):=by unfold storeVar;rw[H];rfl
  rw[e,G];rfl
 unfold It HC;simp only[D,E,J,Instr.storeAt,Instr.sureAddr,Ia,Sem.run_pure,Hv,F];exact h _ (g.set1 k v) (Ch.one k v w)
theorem az{D:Array Oper}{E:List Oper}{o:Oper}{a:Act}{A:Exit->Act->Fk->Prop}{T:GA}(K:(prog.info? T).map (·.size)=some 1)(H:o.guard=none)(x y:Operand)(G:o.op= .store T x y)
  (b k:Nat)(g:GA)(v:Fr)(C:List Fr)(J:a.eval x= .pointer (some (ad b k)))(N:a.eval y=v)(M:v.cells= #[v])(j:v.oneCell'=true)(F:ak w b g C)(R:k<C.length)(h:∀W,ak W b g (C.set k v)->Ch b w W->GY prog D A E (a.put o.dst Gm) W):GY prog D A (o::E) a w:=
 wpList_plain H fun _ S=>aA K x y G b k g v C J N M j F R fun W j Q=>S _ _ (h W j Q)
theorem cF{o:Oper}{a:Act}{E:Act->Fk->Prop}{Q:Exit->Act->Fk->Prop}{t e:GA}(x:Operand)(F:o.op= .buildSlice t 1 #[(0,x)]){i:Ic}{z:Fr}(H:prog.underlying t=some (.slice e))(S:prog.info? e=some i)(G:i.zero=some z)(N:i.size=n)(X:z.cells.size=n)(U:0<n)(V:n<=1000)
  (v:Fr)(cs:List Fr)(J:a.eval x=v)(R:v.cells=cs.toArray)(g:cs.length=n)(h:∀W,ak W w.1.size e cs->bL w W->W.1.size=w.1.size+1->E (a.put o.dst (.slice (some (ad w.1.size 0)) 1 1)) W):o.wp prog a w E Q:=by
 subst N;have A:Instr.fill (fun j=>some (j*i.size,i.size)) ((Array.range (1*i.size)).map (z.cells[· % z.cells.size]!)) [(0,v)]=some cs.toArray:=by have M:=bE ((Array.range (1*i.size)).map (z.cells[· % z.cells.size]!)) cs (by simp[g]);simp only[Instr.fill,R];rw[am (by simp[g])];simp only[Nat.zero_mul,GE];simpa using M
 have D:¬1*i.size>2^24:=by omega
 have C:¬1*i.size=0:=by omega
 have K:(Instr.buildSlice t 1 #[(0,v)]).run prog w= .ok (.slice (some (ad w.1.size 0)) 1 1) (w.alloc (.cells cs.toArray e)):=by simp only[Nat.one_mul]at A D C;simp[Instr.buildSlice,Hg H,sizeOf,typeInfo,zeroValue,S,G,D,C,A,newRow]
 unfold It HC;simp only[F,Ia,Jb,List.map_cons,IP,J,K,Hv];exact h _ (ak.new w e cs) ((FB _ w).alloc rl _) (by simp)
theorem cy{A:Array Oper}{g:List Oper}{o:Oper}{a:Act}{j:Exit->Act->Fk->Prop}{t e:GA}(H:o.guard=none)(x:Operand)(C:o.op= .buildSlice t 1 #[(0,x)]){i:Ic}{z:Fr}(D:prog.underlying t=some (.slice e))(K:prog.info? e=some i)(G:i.zero=some z)(N:i.size=n)(X:z.cells.size=n)(J:0<n)(U:n<=1000)
  (v:Fr)(cs:List Fr)(M:a.eval x=v)(V:v.cells=cs.toArray)(S:cs.length=n)(h:∀W,ak W w.1.size e cs->bL w W->W.1.size=w.1.size+1->GY prog A j g (a.put o.dst (.slice (some (ad w.1.size 0)) 1 1)) W):GY prog A j (o::g) a w:=
 wpList_plain H fun _ R=>cF x C D K G N X J U v cs M V S fun W F Q E=>R _ _ (h W F Q E)
theorem bW{C:Array Oper}{j:List Oper}{o:Oper}{a:Act}{A:Exit->Act->Fk->Prop}(E:El α)(N:o.guard=none)(s x:Operand)(t:GA)
  (D:o.op= .call {callee:= .builtin .append,args:= #[s,x],argTypes:= #[t,t]})(i:Ic)(z:Fr)(F:prog.underlying t=some (.slice E.ty))(S:prog.info? E.ty=some i)(M:i.zero=some z)
  (W:i.size=E.sz)(a0:z.cells.size=E.sz)(Q:0<E.sz)(U:i.bytes<=1024)
  (B:Nat)(w:Fk)(v:Fr)(l:List α)(Z:a.eval s=v)(K:aL E B w v l)(cs:List Fr)(e:α)(hL:E.L (fun c=>B<=c/\v.ownBlock≠some c) w cs e)(g0:Nat)(T:GA)(G:ak w g0 T cs)
  (V:a.eval x= .slice (some (ad g0 0)) 1 1)(R:l.length<=10000000)(hB:B<=w.1.size)
  (h:∀g cap w',aL E B w' (.slice (some (ad g 0)) (l.length+1) cap) (l++[e])->FM B w w'->(∀c,c<w.1.size->v.ownBlock≠some c->w'.1[c]? =w.1[c]?)->(v.ownBlock=some g∨g=w.1.size)->GY prog C A j (a.put o.dst (.slice (some (ad g 0)) (l.length+1) cap)) w'):GY prog C A (o::j) a w:=
 wpList_plain N fun _ Y=>cw E s x t D i z F S M W a0 Q U B w v l Z K cs e hL g0 T G V R hB fun g cap w' J X H h4=>Y _ _ (h g cap w' J X H h4)
theorem dO{a:Act}{d:Tmp}(h:d<a.tmps.size):(a.put (some d) v).eval (.tmp d)=v:=by simp[Gf,Act.eval,h]
theorem cx{a:Act}{d g:Tmp}(h:g≠d):(a.put (some d) v).eval (.tmp g)=a.eval (.tmp g):=by simp[Gf,Act.eval,Array.getElem?_setIfInBounds_ne (Gp h)]
theorem bt(a:Act)(d:Tmp)(v:Fr):(a.put (some d) v).tmps.size=a.tmps.size:=by simp[Gf]
theorem dA{a:Act}{d g:Tmp}(h:d≠g):(a.put (some d) v).put (some g) v0=(a.put (some g) v0).put (some d) v:=by simp only[Gf];rw[Gq _ _ h]
section
variable {ops:Array Oper} {Q:Exit→Act→Fk→Prop} {late:List Nat} {S:Fk→Prop} {f:Nat} {listed:Array Bool}
theorem dS{E:El α}{ok:Nat->Prop}{a:Act}(G F ia:Nat){oc ob oa:Oper}(H J Z:Tmp)(t:GA)(s x y:Operand)
  (a8:ops[G]? =some oc)(d2:ops[F]? =some ob)(d8:ops[ia]? =some oa)
  (N:oc.guard=none/\ob.guard=none/\oa.guard=none)(hd:oc.dst=some H/\ob.dst=some J/\oa.dst=some Z)
  (r0:FP .any ops listed=[G,F])(r1:FP .any ops (listed.setIfInBounds G true)=[F])(r2:FP .any ops (listed.setIfInBounds F true)=[G])
  (r3:FP .any ops ((listed.setIfInBounds G true).setIfInBounds F true)=[ia])(b8:(G !=F)=true)
  (b4:oc.op= .call {callee:= .builtin .append,args:= #[s,x],argTypes:= #[t,t]})(c9:ob.op= .buildSlice t 1 #[(0,y)])(d3:oa.op= .call {callee:= .builtin .append,args:= #[.tmp H,.tmp J],argTypes:= #[t,t]})
  (a4:(decide (H<a.tmps.size)&& (decide (J<a.tmps.size)&&decide (Z<a.tmps.size)))=true)(a6:(H !=J&& (H !=Z&&J !=Z))=true)(d9:∃p,x= .tmp p/\(p !=J)=true)(e0:(∃p,y= .tmp p/\(p !=H)=true))(c8:∀b:Act,b.eval s= .slice none 0 0)
  {i:Ic}{z:Fr}(M:prog.underlying t=some (.slice E.ty))(V:prog.info? E.ty=some i)(R:i.zero=some z)(a0:i.size=E.sz)(a3:z.cells.size=E.sz)(a2:0<E.sz)(d1:E.sz<=1000)(a5:i.bytes<=1024)
  {l:List α}(K:a.eval x=v)(hR:Ro E ok w v l)(hL:∀W cs x,x∈l->bL w W->E.L ok W cs x->E.L (fun c=>w.1.size<=c/\c<W.1.size) W cs x)(e4:l.length<=1000000)
  (ev:Fr)(cs:List Fr)(e:α)(hy:a.eval y=ev)(d0:ev.cells=cs.toArray)(b6:∀ok W,E.L ok W cs e)
  (X:∀W,bL w W->S W)
  (h:∀A v2 g cap Y,aL E w.1.size Y (.slice (some ⟨g,0,none⟩) (l.length+1) cap) (l++[e])->bL w Y->cK prog .any ops Q late S f (((listed.setIfInBounds G true).setIfInBounds F true).setIfInBounds ia true) (((a.put (some H) A).put (some J) v2).put (some Z) (.slice (some ⟨g,0,none⟩) (l.length+1) cap)) Y):
  cK prog .any ops Q late S (f+3) listed a w:=by
 simp only[FG,bne_iff_ne,ne_eq]at a6 b8;simp only[FG,decide_eq_true_eq]at a4;obtain⟨q,rfl,hq⟩:=d9;obtain⟨r,rfl,hr⟩:=e0;simp only[bne_iff_ne,ne_eq]at hq hr;have b9:cs.length=E.sz:=(E.cells (b6 (fun _=>True) w)).1;have a9:∀A g0 C,aL E w.1.size C A l->ak C g0 E.ty cs->(w.1.size<=g0)->bL w C->
   cK prog .any ops Q late S (f+1) ((listed.setIfInBounds G true).setIfInBounds F true) ((a.put (some H) A).put (some J) (.slice (some ⟨g0,0,none⟩) 1 1)) C:=fun A g0 C hG hB e2 hw=>by
  refine cf ia r3 d8 N.2.2 fun b5 hK=>?_;refine cw E (.tmp H) (.tmp J) t d3 i z M V R a0 a3 a2 a5 w.1.size C A l ?_ hG cs e (b6 _ _) g0 E.ty hB ?_ (by omega) hw.size fun g cap Y d5 b7 _ _=>?_
  .rw[cx a6.1];exact dO a4.1
  .exact dO (by rw[bt];exact a4.2.1)
  .rw[hd.2.2];apply hK _ _ (fun _=>X _ (hw.trans b7));exact h A _ g cap Y d5 (hw.trans b7)
 refine cj [G,F] r0 ?_ (by simp);intro j hj;simp only[FQ,FO,or_false]at hj;rcases hj with rfl|rfl
 .refine⟨oc,a8,N.1,fun b5 hK=>?_⟩;refine mf s (.tmp q) t b4 w.1.size M V R a0 a3 a2 a5 (c8 a) K hR (fun cs x hm K=>hL w cs x hm (FB _ _) K) (by omega) rl fun A W1 e1 D=>?_;rw[hd.1];refine hK _ _ (fun _=>X _ D) ?_;refine cf F r1 d2 N.2.1 fun K2 a7=>?_;refine cF (.tmp r) c9 M V R a0 a3 a2 d1 ev cs (by rw[cx hr];exact hy) d0 b9 fun C d4 a1 e5=>?_;rw[hd.2.1];have U:=D.trans (a1.mono D.size);apply a7 _ _ (fun _=>X _ U);exact a9 A W1.1.size C (e1.below a1) d4 D.size U
 .refine⟨ob,d2,N.2.1,fun b5 hK=>?_⟩;refine cF (.tmp r) c9 M V R a0 a3 a2 d1 ev cs hy d0 b9 fun W1 d6 D e3=>?_;rw[hd.2.1];refine hK _ _ (fun _=>X _ D) ?_;refine cf G r2 a8 N.1 fun K2 a7=>?_;refine mf s (.tmp q) t b4 w.1.size M V R a0 a3 a2 a5 (c8 _) (by rw[cx hq];exact K) (hR.keep fun b o u _ hu=>ai D b o u hu) (fun cs x hm K=>hL W1 cs x hm D K) (by omega) (by omega) fun A C d7 a1=>?_;rw[hd.1];have U:=D.trans (a1.mono D.size);apply a7 _ _ (fun _=>X _ U);have:=a9 A w.1.size C d7 (d6.below a1) rl U;rw[dA a6.1,Gq _ _ b8]at this;exact this
end
def wA(ops:Array Oper)(late:List Nat)(listed:Array Bool)(i:Nat):Bool:=Gt ops&& (GI .any ops listed i&& ((FP .any ops listed).contains i&& (cz .any ops late i&&bM .any ops listed)))
def kf(l:Array Bool)(ic im e1 e2:Nat):Array Bool:=(((l.setIfInBounds ic true).setIfInBounds im true).setIfInBounds e1 true).setIfInBounds e2 true
def rS(ops:Array Oper)(late:List Nat)(l:Array Bool)(ic im e1 e2:Nat):Bool:=wA ops late (l.setIfInBounds ic true) im&& (wA ops late ((l.setIfInBounds ic true).setIfInBounds im true) e1&&wA ops late (((l.setIfInBounds ic true).setIfInBounds im true).setIfInBounds e1 true) e2)
def hK(a:Act)(rc dm d1 d2:Tmp)(ds es:List Fr):Act:=(((a.put (some rc) (.tuple #[.agg ds.toArray,.agg es.toArray])).put (some dm) (.tuple #[.agg ds.toArray,.agg es.toArray])).put (some d1) (.agg ds.toArray)).put (some d2) (.agg es.toArray)
theorem eL{l:Array Bool}(h:(j !=i&& (g !=i&& (n0 !=i&&n5 !=i)))=true):kf (l.setIfInBounds i true) j g n0 n5=(kf l j g n0 n5).setIfInBounds i true:=by simp only[FG,bne_iff_ne,ne_eq]at h;unfold kf;rw[Gq _ _ (Gp h.1),Gq _ _ (Gp h.2.1),Gq _ _ (Gp h.2.2.1),Gq _ _ (Gp h.2.2.2)]
theorem eM{a:Act}{A w j g p:Tmp}(h:(A !=p&& (w !=p&& (j !=p&&g !=p)))=true):hK (a.put (some p) v) A w j g l2 l3=(hK a A w j g l2 l3).put (some p) v:=by simp only[FG,bne_iff_ne,ne_eq]at h;unfold hK;rw[dA (Gp h.1),dA (Gp h.2.1),dA (Gp h.2.2.1),dA (Gp h.2.2.2)]
theorem nS(a:Act)(v:Fr):a.put none v=a:=rfl
def xO(rc dm d1 d2 p1 p2 n:Nat):Bool:=(rc !=dm&& (rc !=d1&& (dm !=d1&& (rc !=d2&& (dm !=d2&& (d1 !=d2&& (p1 !=p2)))))))&& ((rc !=p1&& (dm !=p1&& (d1 !=p1&&d2 !=p1)))&& ((rc !=p2&& (dm !=p2&& (d1 !=p2&&d2 !=p2)))&& (decide (rc<n)&& (decide (dm<n)&& (decide (d1<n)&& (decide (d2<n)&& (decide (p1<n)&&decide (p2<n))))))))
section
variable {ops:Array Oper} {Q:Exit→Act→Fk→Prop} {late:List Nat} {S:Fk→Prop}
theorem gO{f:Nat}{a:Act}{l:Array Bool}{H G J:Oper}{C A F N:Tmp}(Y:ops[j]? =some H)(a0:ops[g]? =some G)(Z:ops[n0]? =some J)(D:H.guard=none/\G.guard=none/\J.guard=none)(hd:H.dst=some A/\G.dst=some F/\J.dst=some N)
  (hm:H.op= .move (.tmp C))(h1:G.op= .extract (.tmp A) 0)(h2:J.op= .extract (.tmp A) 1)(E:rS ops late l n5 j g n0=true)(a1:A≠F)(U:C<a.tmps.size/\A<a.tmps.size)
  (R:∀d v c a w,Q (.panic c) (a.put d v) w->Q (.panic c) a w)(M:S V)
  (h:cK prog .any ops Q late S f (kf l n5 j g n0) (hK a C A F N l2 l3) V):cK prog .any ops Q late S (f+3) (l.setIfInBounds n5 true) (a.put (some C) (.tuple #[.agg l2.toArray,.agg l3.toArray])) V:=by
 unfold rS wA at E;simp only[FG]at E;have K:∀ {o:Oper} (a:Act),o.guard=none->Gh o (Hp ops a.tmps)=true:=fun a D=>by simp[Gh,D]
 have v1:(a.put (some C) (.tuple #[.agg l2.toArray,.agg l3.toArray])).eval (.tmp C)= .tuple #[.agg l2.toArray,.agg l3.toArray]:=dO U.1;have X:((a.put (some C) (.tuple #[.agg l2.toArray,.agg l3.toArray])).put (some A) (.tuple #[.agg l2.toArray,.agg l3.toArray])).eval (.tmp A)= .tuple #[.agg l2.toArray,.agg l3.toArray]:=dO (by rw[bt];exact U.2);have v3:(((a.put (some C) (.tuple #[.agg l2.toArray,.agg l3.toArray])).put (some A) (.tuple #[.agg l2.toArray,.agg l3.toArray])).put (some F) (.agg l2.toArray)).eval (.tmp A)= .tuple #[.agg l2.toArray,.agg l3.toArray]:=by rw[cx a1];exact X
 refine aM j (some A) (v:= .tuple #[.agg l2.toArray,.agg l3.toArray]) Y hd.1 (by simp only[FG];exact E.1) (R _ _) M (GJ ⟨K _ D.1,fun W _=>?_⟩) ?_
 .unfold HC;simp only[hm,v1];rfl
 refine aM g (some F) (v:= .agg l2.toArray) a0 hd.2.1 (by simp only[FG];exact E.2.1) (R _ _) M (GJ ⟨K _ D.2.1,fun W _=>?_⟩) ?_
 .unfold HC;simp only[h1,X];rfl
 refine aM n0 (some N) (v:= .agg l3.toArray) Z hd.2.2 (by simp only[FG];exact E.2.2) (R _ _) M (GJ ⟨K _ D.2.2,fun W _=>?_⟩) ?_
 .unfold HC;simp only[h2,v3];rfl
 exact h
def BB(ops:Array Oper)(l:Array Bool)(ic im e1 e2 i1 i2 s1 s2:Nat):Prop:=
 FP .any ops l=[ic,i1,i2]/\FP .any ops (kf l ic im e1 e2)=[i1,i2]/\FP .any ops (l.setIfInBounds i1 true)=[ic,i2]/\FP .any ops (l.setIfInBounds i2 true)=[ic,i1]/\
 FP .any ops ((l.setIfInBounds i1 true).setIfInBounds i2 true)=[ic]/\FP .any ops ((kf l ic im e1 e2).setIfInBounds i1 true)=[i2]/\FP .any ops ((kf l ic im e1 e2).setIfInBounds i2 true)=[i1]/\
 FP .any ops (((kf l ic im e1 e2).setIfInBounds i1 true).setIfInBounds i2 true)=[s1]/\FP .any ops ((((kf l ic im e1 e2).setIfInBounds i1 true).setIfInBounds i2 true).setIfInBounds s1 true)=[s2]/\
 FP .any ops (((((kf l ic im e1 e2).setIfInBounds i1 true).setIfInBounds i2 true).setIfInBounds s1 true).setIfInBounds s2 true)=[]
theorem sC{f:Nat}{a:Act}{l:Array Bool}(N im Y e2 E F f6 s2:Nat){oc om e9 f1 o1 o2 f2 e7:Oper}(rc dm V X M K:Tmp)(T1 T2:GA)
  (j9:ops[N]? =some oc/\ops[im]? =some om/\ops[Y]? =some e9/\ops[e2]? =some f1/\ops[E]? =some o1/\ops[F]? =some o2/\ops[f6]? =some f2/\ops[s2]? =some e7)
  (hg:oc.guard=none/\om.guard=none/\e9.guard=none/\f1.guard=none/\o1.guard=none/\o2.guard=none/\f2.guard=none/\e7.guard=none)
  (hd:oc.dst=some rc/\om.dst=some dm/\e9.dst=some V/\f1.dst=some X/\o1.dst=some M/\o2.dst=some K/\f2.dst=none/\e7.dst=none)
  (ho:om.op= .move (.tmp rc)/\e9.op= .extract (.tmp dm) 0/\f1.op= .extract (.tmp dm) 1/\o1.op= .alloc T1/\o2.op= .alloc T2/\f2.op= .store T1 (.tmp M) (.tmp V)/\e7.op= .store T2 (.tmp K) (.tmp X))
  (f8:xO rc dm V X M K a.tmps.size=true)(g5:((N !=E&& (im !=E&& (Y !=E&&e2 !=E)))&& ((N !=F&& (im !=F&& (Y !=F&&e2 !=F)))&&E !=F))=true)
  (hr:BB ops l N im Y e2 E F f6 s2)(hc:(rS ops late l N im Y e2&& (rS ops late (l.setIfInBounds E true) N im Y e2&& (rS ops late (l.setIfInBounds F true) N im Y e2&&rS ops late ((l.setIfInBounds E true).setIfInBounds F true) N im Y e2)))=true)
  {j1 j2:Ic}(i4:prog.info? T1=some j1/\j1.zero=some v0/\v0.cells=l2.toArray/\(prog.info? T1).map (·.size)=some n1/\l2.length=n1)(h5:prog.info? T2=some j2/\j2.zero=some v1/\v1.cells=l3.toArray/\(prog.info? T2).map (·.size)=some n2/\l3.length=n2)
  (hQ:∀d v c a w,Q (.panic c) (a.put d v) w->Q (.panic c) a w)(g6:late.contains s2=true)(D:∀W,bL w W->S W)
  (P:Fk->Fk->List Fr->List Fr->Prop)(hP:∀W W2 A C,P W W2 A C->(A.length=n1/\∀v∈A,v.oneCell'=true)/\(C.length=n2/\∀v∈C,v.oneCell'=true))
  (d5:∀ (b:Act) (W:Fk) (U:Act->Fk->Prop),(b=a∨(∃v,b=a.put (some M) v)∨(∃v,b=a.put (some K) v)∨∃v v2,b=(a.put (some M) v).put (some K) v2)->bL w W->(∀A C W2,P W W2 A C->bL W W2->U (b.put (some rc) (.tuple #[.agg A.toArray,.agg C.toArray])) W2)->oc.wp prog b W U Q)
  (h:∀b1 b2 A C d1 Wd W',w.1.size<=b1->w.1.size<=b2->b1≠b2->P d1 Wd A C->bL w d1->bL d1 Wd->bL w W'->Wd.1.size<=W'.1.size->(∀c,(c<w.1.size∨(d1.1.size<=c/\c<Wd.1.size))->W'.1[c]? =Wd.1[c]?)->ak W' b1 T1 A->ak W' b2 T2 C->
   Q .normal (((hK a rc dm V X A C).put (some M) (Pt b1)).put (some K) (Pt b2)) W'):
  cK prog .any ops Q late S (f+8) l a w:=by
 obtain⟨b4,a7,b6,b7,d8,a9,i0,i3⟩:=j9;obtain⟨gc,gm,e6,c9,g1,g2,i7,j5⟩:=hg;obtain⟨dc,b8,e0,e4,yL,yt,uE,i6⟩:=hd;obtain⟨qm,b5,b9,q1,q2,h4,i9⟩:=ho;obtain⟨r0,r1,r2,r3,r4,r5,r6,r7,r8,r9⟩:=hr;obtain⟨a8,d6,d3,h8,h7⟩:=i4;obtain⟨d9,d4,d7,j8,h3⟩:=h5;simp only[FG]at hc g5;obtain⟨⟨g7,j3⟩,⟨j0,j4⟩,h0⟩:=g5;have X1:(N !=E&& (im !=E&& (Y !=E&&e2 !=E)))=true:=by simp only[FG];exact⟨g7,j3⟩
 have X2:(N !=F&& (im !=F&& (Y !=F&&e2 !=F)))=true:=by simp only[FG];exact⟨j0,j4⟩
 have X3:E≠F:=by simpa using h0
 unfold xO at f8;simp only[FG,decide_eq_true_eq]at f8;obtain⟨⟨y1,y2,y3,y4,y5,y6,y7⟩,⟨u1,u2,u3,u4⟩,⟨f9,v2,v3,v4⟩,k1,k2,k3,k4,k5,k6⟩:=f8;have Y1:(rc !=M&& (dm !=M&& (V !=M&&X !=M)))=true:=by simp only[FG];exact⟨u1,u2,u3,u4⟩
 have Y2:(rc !=K&& (dm !=K&& (V !=K&&X !=K)))=true:=by simp only[FG];exact⟨f9,v2,v3,v4⟩
 simp only[bne_iff_ne,ne_eq]at y1 y2 y3 y4 y5 y6 y7 u1 u2 u3 u4 f9 v2 v3 v4;have g3:∀ (b:Act) A C,(hK b rc dm V X A C).tmps.size=b.tmps.size:=fun b A C=>by simp[hK,bt]
 have fin:∀b1 b2 A C d1 Wd W,w.1.size<=b1->w.1.size<=b2->b1≠b2->P d1 Wd A C->bL w d1->bL d1 Wd->bL w W->Wd.1.size<=W.1.size->(∀c,(c<w.1.size∨(d1.1.size<=c/\c<Wd.1.size))->W.1[c]? =Wd.1[c]? /\c≠b1/\c≠b2)->ak W b1 T1 l2->ak W b2 T2 l3->
   cK prog .any ops Q late S (f+2) (((kf l N im Y e2).setIfInBounds E true).setIfInBounds F true) (((hK a rc dm V X A C).put (some M) (Pt b1)).put (some K) (Pt b2)) W:=by
  intro b1 b2 A C d1 Wd W H a3 f7 hp j7 h2 hw h9 hk i5 g8;have hl:=hP _ _ _ _ hp;have t1:(((hK a rc dm V X A C).put (some M) (Pt b1)).put (some K) (Pt b2)).eval (.tmp M)=Pt b1:=by rw[cx y7];exact dO (by rw[g3];exact k5)
  have t2:(((hK a rc dm V X A C).put (some M) (Pt b1)).put (some K) (Pt b2)).eval (.tmp K)=Pt b2:=dO (by rw[bt,g3];exact k6);have t3:(((hK a rc dm V X A C).put (some M) (Pt b1)).put (some K) (Pt b2)).eval (.tmp V)= .agg A.toArray:=by rw[cx v3,cx u3];unfold hK;rw[cx y6];exact dO (by rw[bt,bt];exact k3)
  have t4:(((hK a rc dm V X A C).put (some M) (Pt b1)).put (some K) (Pt b2)).eval (.tmp X)= .agg C.toArray:=by rw[cx v4,cx u4];unfold hK;exact dO (by rw[bt,bt,bt];exact k4)
  refine cf f6 r7 i0 i7 fun U G=>?_;refine an h8 (.tmp M) (.tmp V) h4 b1 A l2 t1 t3 i5 h7 hl.1 fun W5 j6 e8=>?_;rw[uE,nS];have g4:=e8.below H hw;refine G _ _ (fun _=>D _ g4) ?_;refine cf s2 r8 i3 j5 fun K2 Z=>?_;refine an j8 (.tmp K) (.tmp X) i9 b2 C l3 t2 t4 (e8.CV (Gp f7) g8) h3 hl.2 fun W6 i8 f0=>?_;rw[i6,nS];refine Z _ _ (fun e=>by rw[g6]at e;cases e) ?_;refine nC r9 (h b1 b2 A C d1 Wd W6 H a3 f7 hp j7 h2 (f0.below a3 g4) (by rw[f0.size,e8.size];exact h9) (fun c a5=>?_) (f0.CV f7 j6) i8) _;let ⟨Y,e2,e3⟩:=hk c a5
  obtain⟨_,vs,rfl⟩:=f0;rw[au e3];obtain⟨_,k0,rfl⟩:=e8;rw[au e2];exact Y
 refine cj [N,E,F] r0 ?_ (by simp);intro j hj;simp only[FQ,FO,or_false]at hj;rcases hj with rfl|rfl|rfl
 .refine⟨oc,b4,gc,fun U G=>d5 a w U (.inl z) (FB _ _) fun A C Wd hp g=>G _ _ (fun _=>D _ g) ?_⟩;apply gO a7 b6 b7 ⟨gm,e6,c9⟩ ⟨b8,e0,e4⟩ qm b5 b9 hc.1 y3 ⟨k1,k2⟩ hQ (D _ g);refine cj [E,F] r1 ?_ (by simp);intro j hj;simp only[FQ,FO,or_false]at hj;rcases hj with rfl|rfl
  .refine⟨o1,d8,g1,fun U G=>aw a8 d6 d3 q1 Wd.1.size z fun W3 f5 c8 h6=>?_⟩;rw[yL];have a6:=g.trans (c8.mono g.size);refine G _ _ (fun _=>D _ a6) (cf F r5 a9 g2 fun K2 Z=>aw d9 d4 d7 q2 W3.1.size z fun W4 a4 R f4=>?_);rw[yt];have a2:=a6.trans (R.mono a6.size);have hz:=g.size;refine Z _ _ (fun _=>D _ a2) (fin _ _ _ _ w Wd W4 (by omega) (by omega) (by omega) hp (FB _ _) g a2 (by omega) (fun c a5=>?_) (f5.below R) a4);have:c<Wd.1.size:=by omega
   exact⟨by rw[R.block c (by omega),c8.block c this],by omega,by omega⟩
  .refine⟨o2,a9,g2,fun U G=>aw d9 d4 d7 q2 Wd.1.size z fun W3 f5 c8 h6=>?_⟩;rw[yt];have a6:=g.trans (c8.mono g.size);refine G _ _ (fun _=>D _ a6) (cf E r6 d8 g1 fun K2 Z=>aw a8 d6 d3 q1 W3.1.size z fun W4 a4 R f4=>?_);rw[yL];have a2:=a6.trans (R.mono a6.size);have hz:=g.size;have e5:=fin W3.1.size Wd.1.size A C w Wd W4 (by omega) (by omega) (by omega) hp (FB _ _) g a2 (by omega) (fun c a5=>by
    have:c<Wd.1.size:=by omega
    exact⟨by rw[R.block c (by omega),c8.block c this],by omega,by omega⟩) a4 (f5.below R)
   rw[dA y7,Gq _ _ X3]at e5;exact Z _ _ (fun _=>D _ a2) e5
 .refine⟨o1,d8,g1,fun U G=>aw a8 d6 d3 q1 w.1.size z fun W1 d0 H h1=>?_⟩;rw[yL];apply G _ _ (fun _=>D _ H);refine cj [N,F] r2 ?_ (by simp);intro j hj;simp only[FQ,FO,or_false]at hj;rcases hj with rfl|rfl
  .refine⟨oc,b4,gc,fun U G=>d5 _ W1 U (.inr (.inl ⟨_,z⟩)) H fun A C Wd hp g=>?_⟩;have J:=H.trans (g.mono H.size);apply G _ _ (fun _=>D _ J);apply gO a7 b6 b7 ⟨gm,e6,c9⟩ ⟨b8,e0,e4⟩ qm b5 b9 hc.2.1 y3 ⟨by rw[bt];exact k1,by rw[bt];exact k2⟩ hQ (D _ J);rw[eL X1,eM Y1];refine cf F r5 a9 g2 fun K2 Z=>aw d9 d4 d7 q2 Wd.1.size z fun W4 a4 R f4=>?_;rw[yt];have a2:=J.trans (R.mono J.size);have hz:=g.size;refine Z _ _ (fun _=>D _ a2) (fin _ _ _ _ W1 Wd W4 (by omega) (by omega) (by omega) hp H g a2 (by omega) (fun c a5=>?_) ((d0.below g).below R) a4);have:c<Wd.1.size:=by omega
   exact⟨R.block c this,by omega,by omega⟩
  .refine⟨o2,a9,g2,fun U G=>aw d9 d4 d7 q2 W1.1.size z fun W2 f3 a3 g9=>?_⟩;rw[yt];have a1:=H.trans (a3.mono H.size);refine G _ _ (fun _=>D _ a1) (cf N r4 b4 gc fun K2 Z=>d5 _ W2 K2 (.inr (.inr (.inr ⟨_,_,z⟩))) a1 fun A C Wd hp g=>?_);have J:=a1.trans (g.mono a1.size);refine Z _ _ (fun _=>D _ J) ?_;apply gO a7 b6 b7 ⟨gm,e6,c9⟩ ⟨b8,e0,e4⟩ qm b5 b9 hc.2.2.2 y3 ⟨by rw[bt,bt];exact k1,by rw[bt,bt];exact k2⟩ hQ (D _ J);rw[eL X2,eL X1,eM Y2,eM Y1];have hz:=g.size;exact fin _ _ _ _ W2 Wd Wd (by omega) (by omega) (by omega) hp a1 g J rl (fun c a5=>⟨z,by omega,by omega⟩) ((d0.below a3).below g) (f3.below g)
 .refine⟨o2,a9,g2,fun U G=>aw d9 d4 d7 q2 w.1.size z fun W1 d0 H h1=>?_⟩;rw[yt];apply G _ _ (fun _=>D _ H);refine cj [N,E] r3 ?_ (by simp);intro j hj;simp only[FQ,FO,or_false]at hj;rcases hj with rfl|rfl
  .refine⟨oc,b4,gc,fun U G=>d5 _ W1 U (.inr (.inr (.inl ⟨_,z⟩))) H fun A C Wd hp g=>?_⟩;have J:=H.trans (g.mono H.size);apply G _ _ (fun _=>D _ J);apply gO a7 b6 b7 ⟨gm,e6,c9⟩ ⟨b8,e0,e4⟩ qm b5 b9 hc.2.2.1 y3 ⟨by rw[bt];exact k1,by rw[bt];exact k2⟩ hQ (D _ J);rw[eL X2,eM Y2];refine cf E r6 d8 g1 fun K2 Z=>aw a8 d6 d3 q1 Wd.1.size z fun W4 a4 R f4=>?_;rw[yL];have a2:=J.trans (R.mono J.size);have hz:=g.size;have e5:=fin Wd.1.size w.1.size A C W1 Wd W4 (by omega) (by omega) (by omega) hp H g a2 (by omega) (fun c a5=>by
    have:c<Wd.1.size:=by omega
    exact⟨R.block c this,by omega,by omega⟩) a4 ((d0.below g).below R)
   rw[dA y7,Gq _ _ X3]at e5;exact Z _ _ (fun _=>D _ a2) e5
  .refine⟨o1,d8,g1,fun U G=>aw a8 d6 d3 q1 W1.1.size z fun W2 f3 a3 g9=>?_⟩;rw[yL];have a1:=H.trans (a3.mono H.size);rw[dA (Gp y7),Gq _ _ (Gp X3)]at *;refine G _ _ (fun _=>D _ a1) (cf N r4 b4 gc fun K2 Z=>d5 _ W2 K2 (.inr (.inr (.inr ⟨_,_,z⟩))) a1 fun A C Wd hp g=>?_);have J:=a1.trans (g.mono a1.size);refine Z _ _ (fun _=>D _ J) ?_;apply gO a7 b6 b7 ⟨gm,e6,c9⟩ ⟨b8,e0,e4⟩ qm b5 b9 hc.2.2.2 y3 ⟨by rw[bt,bt];exact k1,by rw[bt,bt];exact k2⟩ hQ (D _ J);rw[eL X2,eL X1,eM Y2,eM Y1];have hz:=g.size;exact fin _ _ _ _ W2 Wd Wd (by omega) (by omega) (by omega) hp a1 g J rl (fun c a5=>⟨z,by omega,by omega⟩) (f3.below g) ((d0.below a3).below g)
end
section
variable {P:Hu} {ops:Array Oper} {Q:Exit→Act→Fk→Prop} {md:GS} {late:List Nat} {S:Fk→Prop}
theorem fa(i:Nat){o1:Oper}{A:Option Tmp}{g:Array Bool}{a:Act}(h:cK P md ops Q late S j (g.setIfInBounds i true) (a.put A v0) w)(C:Hid (S w):=by with_reducible assumption)
  (H:ops[i]? =some o1:=by rfl)(F:o1.dst=A:=by(conv=>lhs;whnf)<;>rfl)(E:(Gt ops&& (GI md ops g i&& ((FP md ops g).contains i&& (cz md ops late i&&bM md ops g))))=true:=by kernel_rfl)
  (J:∀c a w,Q (.panic c) (a.put A v0) w->Q (.panic c) a w:=by exact fun _ _ _ h=>h)(G:Gh o1 (Hp ops a.tmps)=true:=by rfl)
  (K:∀w',S w'->(HC a.eval o1).run P w'= .ok (.value v0) w':=by intro M D;clear D;go_simp;first|with_reducible rfl|rw[am (by omega)])
  :cK P md ops Q late S (j+1) g a w:=aM i A H F E J C.o (GJ ⟨G,K⟩) h
theorem nk(i:Nat){o1 o2:Oper}{A C:Option Tmp}{g:Array Bool}{a:Act}(h:cK P md ops Q late S j ((g.setIfInBounds i true).setIfInBounds (i+1) true) ((a.put A v0).put C v1) w)(E:Hid (S w):=by with_reducible assumption)
  (R:ops[i]? =some o1:=by rfl)(J:o1.dst=A:=by(conv=>lhs;whnf)<;>rfl)(G:(Gt ops&& (GI md ops g i&& ((FP md ops g).contains i&& (cz md ops late i&&bM md ops g))))=true:=by kernel_rfl)
  (V:∀c a w,Q (.panic c) (a.put A v0) w->Q (.panic c) a w:=by exact fun _ _ _ h=>h)(M:Gh o1 (Hp ops a.tmps)=true:=by rfl)
  (X:∀w',S w'->(HC a.eval o1).run P w'= .ok (.value v0) w':=by intro F D;clear D;go_simp;first|with_reducible rfl|rw[am (by omega)])
  (U:ops[(i+1)]? =some o2:=by rfl)(K:o2.dst=C:=by(conv=>lhs;whnf)<;>rfl)(H:(Gt ops&& (GI md ops (g.setIfInBounds i true) (i+1)&& ((FP md ops (g.setIfInBounds i true)).contains (i+1)&& (cz md ops late (i+1)&&bM md ops (g.setIfInBounds i true)))))=true:=by kernel_rfl)
  (W:∀c a w,Q (.panic c) (a.put C v1) w->Q (.panic c) a w:=by exact fun _ _ _ h=>h)(N:Gh o2 (Hp ops (a.put A v0).tmps)=true:=by rfl)
  (Y:∀w',S w'->(HC (a.put A v0).eval o2).run P w'= .ok (.value v1) w':=by intro F D;clear D;go_simp;first|with_reducible rfl|rw[am (by omega)])
  :cK P md ops Q late S (j+1+1) g a w:=aM i A R J G V E.o (GJ ⟨M,X⟩) (aM (i+1) C U K H W E.o (GJ ⟨N,Y⟩) h)
theorem ke(i:Nat){o1 o2 o3:Oper}{A C E:Option Tmp}{g:Array Bool}{a:Act}(h:cK P md ops Q late S j (((g.setIfInBounds i true).setIfInBounds (i+1) true).setIfInBounds (i+2) true) (((a.put A v0).put C v1).put E v2) w)(F:Hid (S w):=by with_reducible assumption)
  (X:ops[i]? =some o1:=by rfl)(M:o1.dst=A:=by(conv=>lhs;whnf)<;>rfl)(H:(Gt ops&& (GI md ops g i&& ((FP md ops g).contains i&& (cz md ops late i&&bM md ops g))))=true:=by kernel_rfl)
  (a0:∀c a w,Q (.panic c) (a.put A v0) w->Q (.panic c) a w:=by exact fun _ _ _ h=>h)(U:Gh o1 (Hp ops a.tmps)=true:=by rfl)
  (a3:∀w',S w'->(HC a.eval o1).run P w'= .ok (.value v0) w':=by intro G D;clear D;go_simp;first|with_reducible rfl|rw[am (by omega)])
  (Y:ops[(i+1)]? =some o2:=by rfl)(N:o2.dst=C:=by(conv=>lhs;whnf)<;>rfl)(J:(Gt ops&& (GI md ops (g.setIfInBounds i true) (i+1)&& ((FP md ops (g.setIfInBounds i true)).contains (i+1)&& (cz md ops late (i+1)&&bM md ops (g.setIfInBounds i true)))))=true:=by kernel_rfl)
  (a1:∀c a w,Q (.panic c) (a.put C v1) w->Q (.panic c) a w:=by exact fun _ _ _ h=>h)(V:Gh o2 (Hp ops (a.put A v0).tmps)=true:=by rfl)
  (a4:∀w',S w'->(HC (a.put A v0).eval o2).run P w'= .ok (.value v1) w':=by intro G D;clear D;go_simp;first|with_reducible rfl|rw[am (by omega)])
  (Z:ops[(i+2)]? =some o3:=by rfl)(R:o3.dst=E:=by(conv=>lhs;whnf)<;>rfl)(K:(Gt ops&& (GI md ops ((g.setIfInBounds i true).setIfInBounds (i+1) true) (i+2)&& ((FP md ops ((g.setIfInBounds i true).setIfInBounds (i+1) true)).contains (i+2)&& (cz md ops late (i+2)&&bM md ops ((g.setIfInBounds i true).setIfInBounds (i+1) true)))))=true:=by kernel_rfl)
  (a2:∀c a w,Q (.panic c) (a.put E v2) w->Q (.panic c) a w:=by exact fun _ _ _ h=>h)(W:Gh o3 (Hp ops ((a.put A v0).put C v1).tmps)=true:=by rfl)
  (a5:∀w',S w'->(HC ((a.put A v0).put C v1).eval o3).run P w'= .ok (.value v2) w':=by intro G D;clear D;go_simp;first|with_reducible rfl|rw[am (by omega)])
  :cK P md ops Q late S (j+1+1+1) g a w:=aM i A X M H a0 F.o (GJ ⟨U,a3⟩) (aM (i+1) C Y N J a1 F.o (GJ ⟨V,a4⟩) (aM (i+2) E Z R K a2 F.o (GJ ⟨W,a5⟩) h))
theorem fK(F:Fk->Prop)(i:Nat){o1:Oper}{A:Option Tmp}{g:Array Bool}{a:Act}(D:∀w,S w->F w)(h:cK P md ops Q late S j (g.setIfInBounds i true) (a.put A v0) w)(E:Hid (S w):=by with_reducible assumption)
  (K:ops[i]? =some o1:=by rfl)(H:o1.dst=A:=by(conv=>lhs;whnf)<;>rfl)(G:(Gt ops&& (GI md ops g i&& ((FP md ops g).contains i&& (cz md ops late i&&bM md ops g))))=true:=by kernel_rfl)
  (M:∀c a w,Q (.panic c) (a.put A v0) w->Q (.panic c) a w:=by exact fun _ _ _ h=>h)(J:Gh o1 (Hp ops a.tmps)=true:=by rfl)
  (N:∀w',F w'->(HC a.eval o1).run P w'= .ok (.value v0) w':=by intro R U;go_simp;first|with_reducible rfl|rw[am (by omega)]):cK P md ops Q late S (j+1) g a w:=aM i A K H G M E.o (GJ ⟨J,fun w' C=>N w' (D w' C)⟩) h
end
def gu(T:List Wd):Prop:=∀i,(ba T i=1->ah (T.getD i default).text=true)/\(0<=(T.getD i default).num/\(T.getD i default).num<=2147483647)
theorem wO{p:Nat}(w:p<s.size)(h:dL s p=1)(g:dj s p=0):ah (s.extract p (du s p))=true:=by
 have N:=hf w g;have H:=iq w;have D:=eo aH s p;unfold dL at h;unfold dj at g;have j:bw (aO s p)=true:=by
  cases j:bw (aO s p) with
  |true=>rfl
  |false=>rw[j]at h;simp only[FN,if_false]at h;split at h<;>cases h
 have G:du s p=ae aH s p:=by unfold du;rw[aD j]
 rw[aD j]at h g;rw[G]at N H ⊢;have C:dZ (s.extract p (ae aH s p)).data.toList=false:=by
  cases J:dZ (s.extract p (ae aH s p)).data.toList with
  |false=>rfl
  |true=>rw[J]at h;cases h
 rw[C]at g;simp only[FN,if_false]at g;have M:(s.extract p (ae aH s p)).size=ae aH s p-p:=by rw[ByteArray.size_extract];omega
 have E:ae aH s p-p<=16:=by
  rcases Nat.lt_or_ge 16 (ae aH s p-p) with A|A
  .rw[aD A]at g;cases g
  .exact A
 have F:(s.extract p (ae aH s p)).data.toList.all aH=true:=by rw[D];exact List.all_takeWhile
 have K:aO (s.extract p (ae aH s p)) 0=aO s p:=by unfold aO;rw[D];have e:=dp w;rw[e,List.takeWhile_cons_of_pos (by unfold aH;rw[j];rfl)];rfl
 unfold ah;rw[M,K,j,F,C,eP (by omega),eP E];rfl
theorem qq(s:ByteArray):gu (cm s).1:=by
 intro i;refine⟨fun h=>?_,oZ s i⟩;have g:=cR _ (by rw[h];decide);let ⟨p,w,A,j⟩:=kD (Gy g)
 have e:(cm s).1.getD i default=gr s p:=by rw[FD,FC g];exact j
 rw[ba,aD g,e]at h;rw[e];exact wO w h A
def lJ(e:Ex):Prop:=∀d,e.depth<=d->de ah e d=true
theorem Af{k n:Int}{o:Int}(h:∀d,1<=d->de ah (.mk k n s 0 false o []) d=true):lJ (.mk k n s 0 false o []):=fun d hd=>h d (by rwa [wm]at hd)
theorem xn{n:Int}(h:0<=n/\n<=2147483647):lJ (lW n):=Af fun d hd=>by simp[de,hd,h.1,h.2]
theorem tQ(h:ah s=true):lJ (eZ s):=Af fun d hd=>by simp[de,hd,h]
theorem tv{x:Ex}(h:ah s=true)(g:lJ x):lJ (ds s x):=fun d hd=>by unfold ds at hd ⊢;rw[rK]at hd;simp[de,h,g (d-1) (by omega),show 1<=d by omega]
theorem we{x:Ex}(g:lJ x):lJ (jm x):=fun d hd=>by unfold jm at hd ⊢;rw[rK]at hd;simp[de,g (d-1) (by omega),show 1<=d by omega]
theorem wL{x:Ex}(g:lJ x):lJ (ji x):=fun d hd=>by unfold ji at hd ⊢;rw[rK]at hd;simp[de,g (d-1) (by omega),show 1<=d by omega]
theorem uY{x y:Ex}(h:1<=j/\j<=11)(w:lJ x)(A:lJ y):lJ (dU j x y):=fun d hd=>by
 unfold dU at hd ⊢;rw[As]at hd;have C:(1:Int)<=(j:Int):=by omega
 have g:(j:Int)<=11:=by omega
 simp[de,w (d-1) (by omega),A (d-1) (by omega),show 1<=d by omega,C,g]
theorem wI(s:ByteArray):gE s<=11:=by
 unfold gE;rcases hf:(GU 12).find? fun o=>decide (hN.getD o aq=s) with _|k
 .exact FX _
 .have:=Gl hf;simp only[Iq]at this;show k<=11;omega
section
variable {T:List Wd}
theorem xd(i:Nat):cq T i<=11:=by
 unfold cq;split
 .exact wI _
 .exact FX _
theorem eO(w:gu T)(h:aV T i=some (.ok (s,j))):ah s=true:=by
 unfold aV at h;split at h
 .rename_i g;cases h;exact(w i).1 g
 .cases h
theorem zn(F:gu T):∀f,
  (∀n i x j,pE T f n i=some (.ok (x,j))->lJ x)/\(∀n m l i x j,lJ l->pL T f n m l i=some (.ok (x,j))->lJ x)/\
  (∀i x j,pU T f i=some (.ok (x,j))->lJ x)/\(∀i x j,pP T f i=some (.ok (x,j))->lJ x):=by
 intro f;induction f with
 |zero=>exact⟨fun _ _ _ _ h=>by simp[pE]at h,fun _ _ _ _ _ _ _ h=>by simp[pL]at h,fun _ _ _ h=>by simp[pU]at h,fun _ _ _ h=>by simp[pP]at h⟩
 |succ f K=>
  let ⟨A,E,C,N⟩:=K
  refine⟨fun n i x j h=>?_,fun n m l i x j G h=>?_,fun i x j h=>?_,fun i x j h=>?_⟩
  .rw[pE]at h;let ⟨l,k,w,g⟩:=aa h
   exact E _ _ _ _ _ _ (C _ _ _ w) g
  .rw[pL]at h;split at h
   .cases h;exact G
   .rename_i R;let ⟨y,k,w,g⟩:=aa h
    have:=xd (T:=T) i;exact E _ _ _ _ _ _ (uY ⟨by omega,this⟩ G (A _ _ _ _ w)) g
  .rw[pU]at h;split at h
   .let ⟨y,k,w,g⟩:=aa h
    cases g;exact we (C _ _ _ w)
   split at h
   .let ⟨y,k,w,g⟩:=aa h
    cases g;exact wL (C _ _ _ w)
   .exact N _ _ _ h
  .rw[pP]at h;split at h
   .let ⟨y,k,w,g⟩:=aa h
    obtain⟨_,m,-,Q⟩:=aa g;cases Q;exact A _ _ _ _ w
   split at h
   .cases h;exact xn (F i).2
   .let ⟨s,k,w,g⟩:=aa h
    have D:=eO F w;split at g
    .let ⟨y,m,J,H⟩:=aa g
     obtain⟨_,q,-,M⟩:=aa H;cases M;exact tv D (A _ _ _ _ J)
    .cases g;exact tQ D
theorem gi(g:gu T){x:Ex}(h:pX T i=some (.ok (x,j))):lJ x:=(zn g _).1 _ _ _ _ h
end
def zR(s:St):Prop:=∀d,s.deep d=none->jv ah s d=true
def ll(l:List St):Prop:=∀d,St.Da l d=none->bB ah l d=true
theorem gT:ll []:=fun _ _=>by unfold bB;rfl
theorem rW:∀ {l m:List St},ll l->ll m->ll (l++m)
 | [],_,_,h=>h
 |s::r,m,h1,h2=>by
  intro d hd
  have H:∀ (l:List St),St.Da (l++m) d=none->St.Da l d=none/\St.Da m d=none:=by
   intro l
   induction l with
   |nil=>intro h;exact⟨by simp[St.Da],h⟩
   |cons x q g=>
    intro h
    rw[GM]at h
    simp only[St.Da]at h ⊢
    cases j:x.deep d with
    |some p=>rw[j]at h;cases h
    |none=>rw[j]at h;exact g h
  have R:∀ (l:List St),bB ah l d=true->bB ah m d=true->bB ah (l++m) d=true:=by
   intro l
   induction l with
   |nil=>intro _ h;exact h
   |cons x q g=>
    intro h C
    rw[GM]
    simp only[bB,FG]at h ⊢
    exact⟨h.1,g h.2 C⟩
  let ⟨A,w⟩:=H _ hd
  exact R _ (h1 d A) (h2 d w)
theorem se{s:St}(h:zR s):ll [s]:=fun d hd=>by
 simp only[St.Da]at hd;simp only[bB,Bool.and_true];apply h d;cases g:s.deep d with
 |some p=>rw[g]at hd;cases hd
 |none=>rfl
theorem xy:iB aT=true:=by decide
theorem ey{k:Int}{p:Int×Int}{x y:Ex}{b e:List St}(A:1<=k/\k<=15)(G:(if ov k=true then ah s else decide (s=aq))=true)(H:(if nu k=true then ah t else decide (t=aq))=true)
  (w:if k=3 then lJ y else y=aT)(j:if jn k=true then lJ x else x=aT)(K:(k=4∨k=5)∨b=[])(E:k=4∨e=[])(J:ll b)(N:ll e):zR (aP k p s t x y b e):=by
 intro d hd;unfold aP at hd ⊢;simp only[St.deep]at hd;split at hd
 .cases hd
 rename_i R;have C:St.Da b (d+1)=none:=by
  cases j:St.Da b (d+1) with
  |some q=>rw[j]at hd;cases hd
  |none=>rfl
 rw[C]at hd;have M:=hd;unfold jv;rw[G,H,eP A.1,eP A.2,eP (show d<=24 by omega),J _ C,N _ M];have Q:(if k=3 then de ah y 24 else iB y)=true:=by
  split at w
  .rename_i g;rw[aD g];exact w 24 (by omega)
  .rename_i g;rw[am g,w];exact xy
 have F:(if jn k=true then de ah x 24 else iB x)=true:=by
  split at j
  .rename_i g;rw[aD g];exact j 24 (by omega)
  .rename_i g;rw[am g,j];exact xy
 have g:((decide (k=4)||decide (k=5))||decide (b.length=0))=true:=by rcases K with (h|h)|h<;>simp[h]
 have D:(decide (k=4)||decide (e.length=0))=true:=by rcases E with h|h<;>simp[h]
 rw[Q,F,g,D];rfl
theorem zi(t:ByteArray):bQ t<16/\bQ t≠2/\bQ t≠3:=by
 unfold bQ;rcases hf:(GU 16).find? fun k=>decide (fk.getD k aq≠aq)&&decide (fk.getD k aq=t) with _|k
 .decide
 .have j:=Gl hf;have g:=He hf;simp only[Iq]at j;simp only[FG,decide_eq_true_eq]at g;refine⟨j,fun h=>?_,fun h=>?_⟩
  .simp only[HS]at h;subst h;exact g.1 (by decide)
  .simp only[HS]at h;subst h;exact g.1 (by decide)
section
variable {T:List Wd}
theorem pd(F:gu T){p:Int×Int}{s:St}(Q:k<16/\k≠0/\k≠2/\k≠3/\k≠4/\k≠5)(h:aW T p k i=some (.ok (s,j))):zR s:=by
 have g:=gT;unfold aW at h;split at h
 .obtain⟨_,_,-,w⟩:=aa h;cases w;exact ey (by decide) (by decide) (by decide) z z (.inr z) (.inr z) g g
 split at h
 .let ⟨x,_,H,w⟩:=aa h
  obtain⟨_,_,-,C⟩:=aa w;cases C;exact ey (by decide) (by decide) (by decide) z (gi F H) (.inr z) (.inr z) g g
 let ⟨s,N,H,w⟩:=aa h
 have D:=eO F H;split at w
 .let ⟨_,m,C,E⟩:=aa w
  let ⟨x,_,M,K⟩:=aa E
  obtain⟨_,_,-,A⟩:=aa K;cases A;exact ey (by decide) D (by decide) z (gi F M) (.inr z) (.inr z) g g
 split at w
 .rename_i G;let ⟨t,m,C,E⟩:=aa w
  have J:=eO F C;obtain⟨_,_,-,A⟩:=aa E;cases A;rcases G with rfl|rfl
  .exact ey (by decide) D J z z (.inr z) (.inr z) g g
  .exact ey (by decide) D J z z (.inr z) (.inr z) g g
 split at w
 .let ⟨x,m,C,E⟩:=aa w
  obtain⟨_,_,-,A⟩:=aa E;cases A;exact ey (by decide) D (by decide) z (gi F C) (.inr z) (.inr z) g g
 .obtain⟨_,_,-,A⟩:=aa w;cases A;have G:k=6∨k=7∨k=9∨k=10∨k=13:=by omega
  rcases G with rfl|rfl|rfl|rfl|rfl<;>exact ey (by decide) D (by decide) z z (.inr z) (.inr z) g g
theorem nI(w:gu T){p:Int×Int}{s:St}(h:bU T p i=some (.ok (s,j))):zR s:=by
 have g:=gT;unfold bU at h;let ⟨s,N,J,D⟩:=aa h
 have G:=eO w J;split at D
 .let ⟨y,m,H,M⟩:=aa D
  obtain⟨_,n,-,K⟩:=aa M;obtain⟨_,q,-,F⟩:=aa K;let ⟨x,r,C,E⟩:=aa F
  obtain⟨_,_,-,A⟩:=aa E;cases A;exact ey (by decide) G (by decide) (gi w H) (gi w C) (.inr z) (.inr z) g g
 .obtain⟨_,q,-,F⟩:=aa D;let ⟨x,r,C,E⟩:=aa F
  obtain⟨_,_,-,A⟩:=aa E;cases A;exact ey (by decide) G (by decide) z (gi w C) (.inr z) (.inr z) g g
theorem yp(C:gu T):∀f,
  (∀i l j,pB T f i=some (.ok (l,j))->ll l)/\(∀acc i l j,ll acc->hw T f acc i=some (.ok (l,j))->ll l)/\(∀i s j,pS T f i=some (.ok (s,j))->zR s):=by
 intro f;induction f with
 |zero=>exact⟨fun _ _ _ h=>by simp[pB]at h,fun _ _ _ _ _ h=>by simp[hw]at h,fun _ _ _ h=>by simp[pS]at h⟩
 |succ f K=>
  let ⟨E,G,J⟩:=K
  refine⟨fun i l j h=>?_,fun acc i l j H h=>?_,fun i s j h=>?_⟩
  .rw[pB]at h;obtain⟨_,k,-,w⟩:=aa h;exact G _ _ _ _ gT w
  .rw[hw]at h;split at h
   .cases h;exact H
   .let ⟨s,k,A,w⟩:=aa h
    exact G _ _ _ _ (rW H (se (J _ _ _ A))) w
  .rw[pS]at h;split at h
   .exact nI C h
   split at h
   .cases h
   rename_i S M;split at h
   .let ⟨x,k,A,w⟩:=aa h
    let ⟨b,m,D,g⟩:=aa w
    cases g;exact ey (by decide) (by decide) (by decide) z (gi C A) (.inl (.inr z)) (.inr z) (E _ _ _ D) gT
   rename_i R;split at h
   .let ⟨x,k,A,w⟩:=aa h
    let ⟨b,m,D,g⟩:=aa w
    split at g
    .let ⟨c,q,Q,N⟩:=aa g
     cases N;exact ey (by decide) (by decide) (by decide) z (gi C A) (.inl (.inl z)) (.inl z) (E _ _ _ D) (E _ _ _ Q)
    .cases g;exact ey (by decide) (by decide) (by decide) z (gi C A) (.inl (.inl z)) (.inl z) (E _ _ _ D) gT
   .rename_i g;have F:=zi (T.getD i default).text;exact pd C ⟨F.1,fun e=>M (.inr e),F.2.1,F.2.2,g,R⟩ h
theorem iS(g:gu T){n:Int}(h:bG T i=some (.ok (n,j))):0<=n/\n<=2147483647:=by
 unfold bG at h;split at h
 .cases h;exact(g i).2
 .cases h
theorem yq(i:Nat):ca T i<7:=by
 unfold ca;rcases hf:(GU 7).find? fun k=>decide (k≠0)&&cr T i (gw.getD k aq) with _|k
 .decide
 .have g:=Gl hf;simp only[Iq]at g;exact g
theorem xU(H:gu T){d:De}(h:pD T i=some (.ok (d,j)))(hd:St.Da d.body 1=none):fI ah d=true:=by
 unfold pD at h;split at h
 .cases h
 rename_i S;have R:=yq (T:=T) i;let ⟨s,Q,N,w⟩:=aa h
 have E:=eO H N;split at w
 .obtain⟨_,m,-,G⟩:=aa w;split at G
  .let ⟨n,_,C,F⟩:=aa G
   obtain⟨_,_,-,A⟩:=aa F;have D:=iS H C;cases A;have J:(-2147483647:Int)<=-n:=by omega
   have M:(-n:Int)<=2147483647:=by omega
   simp[fI,bZ,E,J,M]
  .let ⟨n,_,C,F⟩:=aa G
   obtain⟨_,_,-,A⟩:=aa F;have D:=iS H C;cases A;have J:(-2147483647:Int)<=n:=by omega
   simp[fI,bZ,E,J,D.2]
 split at w
 .rename_i g;let ⟨n,_,C,F⟩:=aa w
  obtain⟨_,_,-,A⟩:=aa F;have D:=iS H C;cases A;rcases g with g|g<;>simp[fI,bZ,E,D.1,D.2,g]
 split at w
 .let ⟨b,q,G,C⟩:=aa w
  cases C;have K:=(yp H _).1 _ _ _ G 1 hd;simp[fI,bZ,E,K]
 .obtain⟨_,_,-,A⟩:=aa w;cases A;have g:ca T i=3∨ca T i=4:=by omega
  rcases g with g|g<;>simp[fI,bZ,E,g]
theorem wQ(E:gu T):∀f acc i l j,(∀d∈acc,St.Da d.body 1=none->fI ah d=true)->iA T f acc i=some (.ok (l,j))->∀d∈l,St.Da d.body 1=none->fI ah d=true:=by
 intro f;induction f with
 |zero=>intro acc i l j _ h;simp[iA]at h
 |succ f C=>
  intro acc i l j w h;rw[iA]at h;split at h
  .let ⟨d,k,D,A⟩:=aa h
   refine C _ _ _ _ ?_ A;intro e g hd;rcases List.mem_append.1 g with g|g
   .exact w e g hd
   .obtain rfl:e=d:=by simpa using g
    exact xU E D hd
  .cases h;exact w
end
theorem lL:∀ {l:List De},cA l=none->∀d∈l,St.Da d.body 1=none
 | [],_,d,h=>by cases h
 |e::r,h,d,hd=>by
  rw[cA]at h
  cases g:St.Da e.body 1 with
  |some p=>rw[g]at h;cases h
  |none=>
   rw[g]at h
   rcases FQ.1 hd with rfl|hd
   .exact g
   .exact lL h d hd
theorem et(s:ByteArray):co ah (bh s).1=true:=by
 have A:=qq s;unfold bh;split
 .split
  .rename_i l j w;split
   .rfl
   .rename_i hd;unfold co;rw[GC];exact fun d g=>wQ A _ _ _ _ _ (fun d hd=>by cases hd) w d g (lL hd d g)
  .rfl
  .rfl
 .rfl
theorem ms(h:ah s=true):s.size<=9223372036854775807:=by unfold ah at h;simp only[FG,decide_eq_true_eq]at h;omega
theorem pW{c:Bool}(h:(if c=true then ah s else decide (s=aq))=true):s.size<=9223372036854775807:=by
 split at h
 .exact ms h
 .simp only[decide_eq_true_eq]at h;subst h;decide
mutual
theorem tV:∀ {e:Ex} {d:Nat},de ah e d=true->e.nb
 | .mk k n s sl lo o args,d,h=>by
  rw[db]at h
  simp only[FG]at h
  unfold Ex.nb
  refine⟨?_,qx h.2.2.2.2.2.2⟩
  have h4:=h.2.2.2.1
  split at h4
  .exact ms h4
  .simp only[decide_eq_true_eq]at h4
   subst h4
   decide
theorem qx:∀ {l:List Ex} {d:Nat},di ah l d=true->Ex.DJ l
 | [],_,_=>by unfold Ex.DJ;trivial
 |x::r,d,h=>by
  unfold di at h
  rw[List.all_cons,FG]at h
  unfold Ex.DJ
  exact⟨tV h.1,qx (d:=d) h.2⟩
end
theorem yU:∀ {e:Ex},iB e=true->e.nb
 | .mk k n s sl lo o args,h=>by
  simp only[iB,FG,decide_eq_true_eq]at h
  obtain⟨-,-,rfl,-,g⟩:=h
  obtain rfl:=Hf.1 g
  unfold Ex.nb Ex.DJ
  exact⟨by decide,trivial⟩
theorem qr{c:Prop}[Decidable c](h:(if c then de ah e 24 else iB e)=true):e.nb:=by
 split at h
 .exact tV h
 .exact yU h
mutual
theorem xT:∀ {s:St} {d:Nat},jv ah s d=true->s.nb
 | .mk k l c s t x y b e _ _ _ _,d,h=>by
  unfold jv at h
  simp only[FG]at h
  unfold St.nb
  exact⟨pW h.2.2.1,pW h.2.2.2.1,qr h.2.2.2.2.2.1,qr h.2.2.2.2.1,jK h.2.2.2.2.2.2.2.2.1,jK h.2.2.2.2.2.2.2.2.2⟩
theorem jK:∀ {l:List St} {d:Nat},bB ah l d=true->St.DJ l
 | [],_,_=>by unfold St.DJ;trivial
 |s::r,d,h=>by
  unfold bB at h
  rw[FG]at h
  unfold St.DJ
  exact⟨xT h.1,jK h.2⟩
end
theorem xY{d:De}(h:fI ah d=true):d.nb:=by
 unfold fI at h;simp only[FG,Bool.or_eq_true,decide_eq_true_eq]at h;refine⟨ms h.1,?_⟩;rcases h.2.1 with j|w
 .have g:=h.2.2;rw[j]at g;simp only[show ¬ (6:Int)=1 by decide,show ¬ ((6:Int)=2∨(6:Int)=5) by decide,show ¬ ((6:Int)=3∨(6:Int)=4) by decide,if_false,if_true,FG]at g;exact jK g.2
 .rw[Hf.1 w];unfold St.DJ;trivial
theorem jH{l:List De}(h:co ah l=true):∀d∈l,d.nb:=fun d hd=>xY (GC.1 h d hd)
def Cn(ok:Nat->Prop)(w:Fk)(R:DF×Nm)(e:Ending)(w':Fk):Prop:=(∃ds,e= .returned (.tuple #[.agg ds.toArray,.agg R.2.cells.toArray])/\aG ok w' R.1 ds)/\FM w.1.size w w'
theorem me{L:List Nm}:∀ {n i:Nat},pp L s n=some i->i<n
 |0,_,h=>by simp[pp]at h
 |n+1,i,h=>by
  rw[pp]at h
  by_cases g:(L.getD n hA).text=s
  .rw[aD g]at h
   cases h
   omega
  .rw[am g]at h
   have:=me h
   omega
structure Wq (w:Fk) (ok:Nat->Prop) (D:DF) (cs:List Fr) (pl pc:Int) (W:Fk):Prop where
 b:FM w.1.size w W
 f:ak W w.1.size 109 cs
 p:ak W (w.1.size+1) 32 [.int .i64 pl,.int .i64 pc]
 z:ak W (w.1.size+1+1) 109 nx
 n:ak W (w.1.size+1+1+1) 114 AI
 d:aG ok W D cs
theorem Wq.below{ok:Nat->Prop}{cs:List Fr}{pc:Int}(h:Wq w ok D cs p0 pc W)(g:bL W V):Wq w ok D cs p0 pc V:=⟨h.b.trans (g.mono h.b.size),h.f.below g,h.p.below g,h.z.below g,h.n.below g,h.d.below g⟩
theorem mj{ok:Nat->Prop}{D':DF}{cs:List Fr}{pc:Int}{x:Nm}(g:∀c,ok c->c<w.1.size)(h:Wq w ok D cs p0 pc W)(hd:aG ok W D' l2)(j:l3=x.cells)(k5:ak U (w.1.size+1+1) 109 l2)(c5:Ch (w.1.size+1+1) W U)(A:ak V (w.1.size+1+1+1) 114 l3)(c6:Ch (w.1.size+1+1+1) U V):
  ak V (w.1.size+1+1) 109 l2/\Cn ok w (D',x) (.returned (.tuple #[.agg l2.toArray,.agg l3.toArray])) V:=by
 subst j;refine⟨c6.CV (by omega) k5,⟨l2,z,c6.df (fun e=>?_) (c5.df (fun e=>?_) hd)⟩,c6.below (by omega) (c5.below (by omega) h.b)⟩
 .have:=g _ e;omega
 .have:=g _ e;omega
theorem eV(D:DF)(s:ByteArray)(a b:Nat)(p:Int×Int)(ok:Nat->Prop)(cs:List Fr)(w:Fk)(a9:∀c,ok c->c<w.1.size)(h:aG ok w D cs):Jq prog 120 #[.agg cs.toArray,.string s,I a,I b,.agg #[I p.1,I p.2]] w (Cn ok w (D.CZ s a b p)):=by
 obtain⟨du,Z,a0⟩:=cd;obtain⟨e2,a4,a5⟩:=hY;obtain⟨i9,z9,e8,e7,f1⟩:=em;obtain⟨i4,z4,e6,f2,f0⟩:=jI;obtain⟨U,pc⟩:=p;have hl:=h.cells.1;have HD:=O h;clear h;obtain⟨R,hR⟩:∃R,D.CZ s a b (U,pc)=R:=⟨_,z⟩;rw[hR];have HR:=O hR;clear hR;go_in;refine wk fun KK b5=>?_;go_wp2_with (first
  | (with_reducible refine cp 5 (.box 109 _) ?_;refine aJ z (.tmp 0) z cs z w.1.size z ?_;intro W1 k1 b1 e1;have K1:=O k1;have B1:=O b1;clear k1 b1)
  | (with_reducible refine cp 9 (.box 32 _) ?_;refine aJ z (.tmp 4) z [I U,I pc] z (w.1.size+1) e1 ?_;intro W2 k2 b2 s2;have K2:=O k2;have B2:=O b2;clear k2 b2)
  | (with_reducible refine cp 10 (.alloc 109) ?_;refine ag e8 e7 f1 z z (w.1.size+1+1) s2 ?_;intro W3 k3 b3 s3;have K3:=O k3;have B3:=O b3;clear k3 b3)
  | (with_reducible refine cp 11 (.alloc 114) ?_;refine ag e6 f2 f0 z z (w.1.size+1+1+1) s3 ?_;intro W4 k4 b4 s4;have K4:=O k4;have B4:=O b4;clear k4 b4)
 )
 refine b5.o _ _ ?_;clear b5 KK;have d1:=B1.o.trans (B2.o.mono B1.o.size);have c9:=d1.trans (B3.o.mono d1.size);have b8:=c9.trans (B4.o.mono c9.size);have HQ:Hid (Wq w ok D cs U pc W4):=O ⟨b8,((K1.o.below B2.o).below B3.o).below B4.o,(K2.o.below B3.o).below B4.o,K3.o.below B4.o,K4.o,HD.o.below b8⟩;clear B1 B2 B3 B4 K1 K2 K3 K4 d1 c9 b8 e1 s2 s3 s4 HD;have e0:=jA D s ok cs W4 HQ.o.d;go_wp2_with (first| (with_reducible refine l0 109 ?_;refine ac Z a0 aj z (.tmp 5) z w.1.size cs z (O HQ.o.f) hl ?_));refine e0.mono ?_;clear e0;rintro e V ⟨rfl,d9⟩;have F:=O (HQ.o.below d9);clear d9 HQ;obtain⟨o,ho⟩:=eX (D.at s);rw[ho];have p0:V.cell? ⟨w.1.size+1,0,none⟩=some (I U):=by rw[F.o.p.cell];rfl
 have p1:V.cell? ⟨w.1.size+1,1,none⟩=some (I pc):=by rw[F.o.p.cell];rfl
 rcases o with _|i
 .obtain rfl:R=(D.DA 131 (U,pc),hA):=by rw[<-HR.o];unfold DF.CZ;rw[ho]
  clear HR;have hf:=bP D ok 131 (U,pc) cs V F.o.d;go_wp2_with (first| (with_reducible refine l0 109 ?_;refine ac Z a0 aj z (.tmp 5) z w.1.size cs z (O F.o.f) hl ?_));refine hf.mono ?_;clear hf;rintro e W6 ⟨⟨ds,rfl,a7⟩,a6⟩;have a1:=O (F.o.below a6);have a2:=O a7;clear a6 a7 F p0 p1;go_wp2_with (first| (with_reducible refine s0 109 ?_;refine af aj z (.tmp 10) (.tmp 20) z (w.1.size+1+1) ds _ z z a1.o.z z a2.o.cells ?_;intro W7 N c7;have A:=O (EQ N c7);clear N c7)| (with_reducible refine s0 114 ?_;refine af cN z (.tmp 11) (.tmp 21) z (w.1.size+1+1+1) hA.cells _ z z (A.o.2.CV (by omega) a1.o.n) z (gj hA) ?_;intro W8 M Q;have G:=O (EQ M Q);clear M Q))
  have S:=mj a9 a1.o a2.o (x:=hA) z A.o.1 A.o.2 G.o.1 G.o.2;exact ge Z a0 aj a4 a5 cN S.1 a2.o.cells.1 G.o.1 z z z z z S.2
 .have e9:i<D.names.length:=me ho;obtain⟨v0,v1,v4,v5,n0,n1,n2,n3,n4,vn,d7,f3,ad,cap,d8,e5,d5⟩:=F.o.d;obtain⟨x,hx⟩:∃x,D.names[i]? =some x:=⟨_,FC e9⟩;obtain⟨g,E,xs,rfl,hg,b6,d6⟩:=d5 i x hx;have e4:xs=x.cells:=d6;rw[e4]at b6;have e3:D.names.getD i hA=x:=by rw[FD,hx];rfl
  have c13:V.cell? ⟨w.1.size,13,none⟩=some (.slice (some ⟨g,E,none⟩) D.names.length cap):=by rw[F.o.f.cell,d7,<-d8];rfl
  have x1:V.cell? ⟨g,E+i*3+1,none⟩=some (I x.kind):=b6 1 _ z;have f4:(0:Int)<=(i:Int):=by omega
  have f7:(i:Int)< (D.names.length:Int):=by omega
  have f6:¬ (i:Int)<0:=by omega
  have HX:=O b6;have f5:=a9 g hg;clear b6 d6 e4 d5 f3 d8 e5 d7 hg;simp only[qN];by_cases hk:x.kind≠a/\x.kind≠b
  .have d2:¬ (x.kind:Int)=(a:Int):=by omega
   have d4:¬ (x.kind:Int)=(b:Int):=by omega
   obtain rfl:R=(D.DA 132 (U,pc),hA):=by rw[<-HR.o];unfold DF.CZ;rw[ho];show (if _ then _ else _)=_;rw[e3,aD hk]
   clear HR;have hf:=bP D ok 132 (U,pc) cs V F.o.d;go_wp2_with (first| (with_reducible refine l0 109 ?_;refine ac Z a0 aj z (.tmp 5) z w.1.size cs z (O F.o.f) hl ?_));refine hf.mono ?_;clear hf;rintro e W6 ⟨⟨ds,rfl,a7⟩,a6⟩;have a1:=O (F.below a6);have a2:=O a7;clear a6 a7 F p0 p1;go_wp2_with (first| (with_reducible refine s0 109 ?_;refine af aj z (.tmp 10) (.tmp 42) z (w.1.size+1+1) ds _ z z a1.o.z z a2.o.cells ?_;intro W7 N c7;have A:=O (EQ N c7);clear N c7)| (with_reducible refine s0 114 ?_;refine af cN z (.tmp 11) (.tmp 43) z (w.1.size+1+1+1) hA.cells _ z z (A.o.2.CV (by omega) a1.o.n) z (gj hA) ?_;intro W8 M Q;have G:=O (EQ M Q);clear M Q))
   have S:=mj a9 a1.o a2.o (x:=hA) z A.o.1 A.o.2 G.o.1 G.o.2;exact ge Z a0 aj a4 a5 cN S.1 a2.o.cells.1 G.o.1 z z z z z S.2;exfalso;rcases(by assumption:((x.kind:Int) !=(a:Int))=false∨((x.kind:Int) !=(b:Int))=false) with h|h
   .exact d2 (by simpa using h)
   .exact d4 (by simpa using h)
  .obtain rfl:R=(D,x):=by rw[<-HR.o];unfold DF.CZ;rw[ho];show (if _ then _ else _)=_;rw[e3,am hk]
   clear HR;have b5:Hid (¬ (x.kind:Int)=(a:Int)->(x.kind:Int)=(b:Int)):=O (by omega);clear hk;have b7:=O c13;by_cases d2:(x.kind:Int)=(a:Int)
   .go_wp2;have b9:prog.follows .mixedOrders=true:=by kernel_rfl
    let ⟨H,Y⟩:=eX (V.drew)
    have C:Hid (Wq w ok D cs U pc H):=O (by rw[<-Y];exact F.below (FB _ V).drew);have X:H.cell? (ad w.1.size 13)=some (.slice (some (ad g E)) D.names.length cap):=Y▸b7.o;have a8:Hid (H.rangeAt g (E+i*3) x.cells):=O (Y▸HX.o);clear F HX b7;have X:cs[13]? =some (.slice (some (ad g E)) D.names.length cap):=by rw[<-C.o.f.cell];exact X
    have d3:=O X;clear X;apply al [7] (fun W=>ak W w.1.size 109 cs/\W.rangeAt g (E+i*3) x.cells) b9;rw[Y];have J:Hid (ak H w.1.size 109 cs/\H.rangeAt g (E+i*3) x.cells):=O ⟨C.f,a8⟩;refine tl 0 44 J 109 5 w.1.size 0 cs du (fun W hS=>hS.1.whole) Z a0 (by rw[hl];exact aj) ?_;refine fa 1 ?_;refine fK (fun W1=>W1.cell? ⟨w.1.size,13,none⟩=some (.slice (some ⟨g,E,none⟩) D.names.length cap)) 2 (fun W1 d0=>by rw[d0.1.cell];exact d3.o) ?_;refine fa 3 ?_;refine nm ?_;refine fa 4 ?_;refine tl 5 49 J 114 48 g (E+i*3) x.cells e2 (fun W hS=>hS.2) a4 a5 cN ?_;refine nm ?_;refine oD 6 fun a3 K=>?_;refine an aj (.tmp 10) (.tmp 44) z (w.1.size+1+1) cs _ z z C.z z C.d.cells ?_;intro W7 N c7
    have A:=O (EQ N c7);clear N c7;apply K _ _ (fun _=>⟨A.o.2.CV (by omega) C.f,fun j u hu=>by rw[A.o.2.cell (by omega)];exact a8 j u hu⟩);clear K a3;refine oD 7 fun a3 K=>?_;refine an cN (.tmp 11) (.tmp 49) z (w.1.size+1+1+1) x.cells _ z z (A.o.2.CV (by omega) C.n) z (gj x) ?_;intro W8 M Q;have G:=O (EQ M Q);clear M Q;apply K _ _ nofun;clear K a3;simp only[Gf];refine dn ?_;have S:=mj a9 C C.d (x:=x) z A.o.1 A.o.2 G.o.1 G.o.2;go_wp2;exact ge Z a0 aj a4 a5 cN S.1 C.d.cells.1 G.o.1 z z z z z S.2
   have d4:=b5 d2;go_wp2;have b9:prog.follows .mixedOrders=true:=by kernel_rfl
   let ⟨H,Y⟩:=eX (V.drew)
   have C:Hid (Wq w ok D cs U pc H):=O (by rw[<-Y];exact F.below (FB _ V).drew);have X:H.cell? (ad w.1.size 13)=some (.slice (some (ad g E)) D.names.length cap):=Y▸b7.o;have a8:Hid (H.rangeAt g (E+i*3) x.cells):=O (Y▸HX.o);clear F HX b7;have X:cs[13]? =some (.slice (some (ad g E)) D.names.length cap):=by rw[<-C.o.f.cell];exact X
   have d3:=O X;clear X;apply al [7] (fun W=>ak W w.1.size 109 cs/\W.rangeAt g (E+i*3) x.cells) b9;rw[Y];have J:Hid (ak H w.1.size 109 cs/\H.rangeAt g (E+i*3) x.cells):=O ⟨C.f,a8⟩;refine tl 0 44 J 109 5 w.1.size 0 cs du (fun W hS=>hS.1.whole) Z a0 (by rw[hl];exact aj) ?_;refine fa 1 ?_;refine fK (fun W1=>W1.cell? ⟨w.1.size,13,none⟩=some (.slice (some ⟨g,E,none⟩) D.names.length cap)) 2 (fun W1 d0=>by rw[d0.1.cell];exact d3.o) ?_;refine fa 3 ?_;refine nm ?_;refine fa 4 ?_;refine tl 5 49 J 114 48 g (E+i*3) x.cells e2 (fun W hS=>hS.2) a4 a5 cN ?_;refine nm ?_;refine oD 6 fun a3 K=>?_;refine an aj (.tmp 10) (.tmp 44) z (w.1.size+1+1) cs _ z z C.z z C.d.cells ?_;intro W7 N c7;have A:=O (EQ N c7)
   clear N c7;apply K _ _ (fun _=>⟨A.o.2.CV (by omega) C.f,fun j u hu=>by rw[A.o.2.cell (by omega)];exact a8 j u hu⟩);clear K a3;refine oD 7 fun a3 K=>?_;refine an cN (.tmp 11) (.tmp 49) z (w.1.size+1+1+1) x.cells _ z z (A.o.2.CV (by omega) C.n) z (gj x) ?_;intro W8 M Q;have G:=O (EQ M Q);clear M Q;apply K _ _ nofun;clear K a3;simp only[Gf];refine dn ?_;have S:=mj a9 C C.d (x:=x) z A.o.1 A.o.2 G.o.1 G.o.2;go_wp2;exact ge Z a0 aj a4 a5 cN S.1 C.d.cells.1 G.o.1 z z z z z S.2
def DF.Ed(D:DF)(p:Int×Int)(k:Int)(s:ByteArray)(sl:Int)(lo:Bool):DF×Int×Bool:=
 if k=2 then ((D.CZ s 1 100 p).1,((D.CZ s 1 100 p).2.slot:Int),decide ((D.CZ s 1 100 p).2.kind=100))
 else if k=3 then ((D.CZ s 2 2 p).1,((D.CZ s 2 2 p).2.slot:Int),lo) else (D,sl,lo)
mutual
def DF.ex (p:Int×Int):Ex->DF->DF×Ex
 | .mk k n s sl lo o args,D=> ((DF.DI p args (D.Ed p k s sl lo).1).1,.mk k n s (D.Ed p k s sl lo).2.1 (D.Ed p k s sl lo).2.2 o (DF.DI p args (D.Ed p k s sl lo).1).2)
def DF.DI (p:Int×Int):List Ex->DF->DF×List Ex
 | [],D=> (D,[])
 |x::l,D=> ((DF.DI p l (DF.ex p x D).1).1,(DF.ex p x D).2::(DF.DI p l (DF.ex p x D).1).2)
end
def DF.stW(D:DF)(p:Int×Int)(k:Int)(s:ByteArray)(sl:Int)(lo:Bool):DF×Int×Bool:=
 if (eu k).1≠0 then ((D.CZ s (eu k).1 (eu k).2 p).1,((D.CZ s (eu k).1 (eu k).2 p).2.slot:Int),decide ((D.CZ s (eu k).1 (eu k).2 p).2.kind=100)) else (D,sl,lo)
def DF.DG(D:DF)(p:Int×Int)(s:ByteArray):DF:=if (D.at s).isSome then D.DA 130 p else D
def DF.DD(D:DF)(p:Int×Int):DF:=if 32<=D.locals then D.DA 134 p else D
def DF.Ez(D:DF)(s:ByteArray):DF:={D with names:=D.names++[⟨s,100,D.locals⟩],locals:=D.locals+1,CY:=max D.CY (D.locals+1)}
def DF.DR(D:DF)(p:Int×Int)(k:Int)(s t:ByteArray)(sl ot:Int)(lo:Bool):DF×Int×Int×Bool:=
 if k=1 then (((((D.stW p k s sl lo).1.DG p s).DD p).Ez s),((((D.stW p k s sl lo).1.DG p s).DD p).locals:Int),ot,true)
 else if k=8 then (((D.stW p k s sl lo).1.CZ t 3 3 p).1,(D.stW p k s sl lo).2.1,(((D.stW p k s sl lo).1.CZ t 3 3 p).2.slot:Int),(D.stW p k s sl lo).2.2)
 else if k=12 then (((D.stW p k s sl lo).1.CZ t 1 100 p).1,(D.stW p k s sl lo).2.1,(((D.stW p k s sl lo).1.CZ t 1 100 p).2.slot:Int),decide (((D.stW p k s sl lo).1.CZ t 1 100 p).2.kind=100))
 else ((D.stW p k s sl lo).1,(D.stW p k s sl lo).2.1,ot,(D.stW p k s sl lo).2.2)
def DF.inc(D:DF):DF:={D with P:={D.P with stmts:=D.P.stmts+1}}
def DF.back(D D0:DF):DF:={D with names:=D0.names,locals:=D0.locals}
mutual
def DF.st:St->DF->DF×St
 | .mk k l c s t x y body els id sl ot lo,D=>
  if 512<=D.P.stmts then (D.DA 134 (l,c),.mk k l c s t x y body els id sl ot lo) else
  let qy:=DF.ex (l,c) y D.inc
  let qx:=DF.ex (l,c) x qy.1
  let h:=qx.1.DR (l,c) k s t sl ot lo
  let b:=DF.Dp body h.1
  let e:=DF.Dp els (b.1.back h.1)
  (e.1.back (b.1.back h.1),.mk k l c s t qx.2 qy.2 b.2 e.2 (D.P.stmts:Int) h.2.1 h.2.2.1 h.2.2.2)
def DF.Dp:List St->DF->DF×List St
 | [],D=> (D,[])
 |s::r,D=>if D.CR≠0 then (D,[]) else ((DF.Dp r (DF.st s D).1).1,(DF.st s D).2::(DF.Dp r (DF.st s D).1).2)
end
def DF.CV(l:List St)(D:DF):DF×List St:=((DF.Dp l D).1.back D,(DF.Dp l D).2)
def DF.Eb(D:DF)(d:De)(n:Nat):DF:=if 64<=D.names.length then D.DA 134 (d.line,d.Dm) else {D with names:=D.names++[⟨d.name,d.kind.toNat,n⟩]}
def DF.dec(D:DF)(d:De):DF:=
 if (D.at d.name).isSome then D.DA 130 (d.line,d.Dm) else
 if d.kind=1 then (if d.num< -2147483648∨2147483647<d.num then D.DA 134 (d.line,d.Dm) else ({D with P:={D.P with vars:=D.P.vars++[d.num],nv:=D.P.nv++[d.name]}}:DF).Eb d D.P.vars.length)
 else if d.kind=2 then (if d.num<1∨256<d.num∨256<D.cells+d.num then D.DA 134 (d.line,d.Dm) else ({D with cells:=D.cells+d.num,P:={D.P with CW:=D.P.CW++[d.num],na:=D.P.na++[d.name]}}:DF).Eb d D.P.CW.length)
 else if d.kind=3 then ({D with P:={D.P with CT:=D.P.CT+1,nm:=D.P.nm++[d.name]}}:DF).Eb d D.P.CT
 else if d.kind=4 then ({D with P:={D.P with conds:=D.P.conds+1,nc:=D.P.nc++[d.name]}}:DF).Eb d D.P.conds
 else if d.kind=5 then (if d.num<1∨16<d.num then D.DA 134 (d.line,d.Dm) else ({D with P:={D.P with CX:=D.P.CX++[d.num],nh:=D.P.nh++[d.name]}}:DF).Eb d D.P.CX.length)
 else if d.kind=6 then ({D with P:={D.P with threads:=D.P.threads++[⟨d.name,0,[]⟩]}}:DF).Eb d D.P.threads.length
 else D.Eb d 0
def ii:DF:=⟨fz,[],0,0,0,(0,0),0⟩
def DF.Du:List De->DF->DF
 | [],D=>D
 |d::r,D=>if D.CR≠0 then D else DF.Du r (D.dec d)
def DF.DN:List De->DF->List (List St)
 | [],_=> []
 |d::r,D=>if D.CR≠0 then [] else if d.kind=6 then d.body::DF.DN r (D.dec d) else DF.DN r (D.dec d)
def DF.Ev(D:DF):Bool:=match D.at fh with
 |none=>true
 |some i=>decide ((D.names.getD i hA).kind≠6)
def DF.Dj(D:DF):DF:=if D.CR=0/\D.Ev=true then D.DA 133 (0,0) else D
def DF.Ej(D:DF)(i:Nat)(b:List St):DF:={D with P:={D.P with threads:=D.P.threads.set i ⟨(D.P.threads.getD i default).name,D.CY,b⟩}}
def DF.Eh:Nat->List (List St)->DF->DF
 |_,[],D=>D
 |i,b::r,D=>if D.CR≠0 then D else DF.Eh (i+1) r ((DF.CV b {D with CY:=0}).1.Ej i (DF.CV b {D with CY:=0}).2)
def fg(l:List De):Pg× (Int×Int)×Int:=
 let D:=DF.Du l ii
 let E:=D.Dj
 let F:=DF.Eh 0 (DF.DN l ii) E
 if F.CR≠0 then (fz,F.pos,F.CR) else ({F.P with main:=(F.names.getD ((D.at fh).getD 0) hA).slot},(0,0),0)
def xC(ok:Nat->Prop)(w:Fk)(R:DF×Ex)(e:Ending)(w':Fk):Prop:=(∃ds xs,e= .returned (.tuple #[.agg ds.toArray,.agg xs.toArray])/\aG ok w' R.1 ds/\ExL (w.1.size<=·) w' xs R.2)/\FM w.1.size w w'
def gv(k n:Int)(s:ByteArray)(sl:Int)(lo:Bool)(o:Int)(av:Fr):List Fr:=[.int .i64 k,.int .i64 n,.string s,.int .i64 sl,.bool lo,.int .i64 o,av]
structure Xq (w:Fk) (ok:Nat->Prop) (D:DF) (cs ec:List Fr) (pl pc:Int) (W:Fk):Prop where
 b:FM w.1.size w W
 f:ak W w.1.size 109 cs
 e:ak W (w.1.size+1) 58 ec
 p:ak W (w.1.size+1+1) 32 [.int .i64 pl,.int .i64 pc]
 z:ak W (w.1.size+1+1+1) 109 nx
 y:ak W (w.1.size+1+1+1+1) 58 yH
 d:aG ok W D cs
section
variable {w W W':Fk} {ok:Nat→Prop} {D D':DF} {cs cs' ec ec':List Fr} {pl pc:Int}
theorem Xq.DZ(h:Xq w ok D cs ec pl pc W)(C:∀c,ok c->c<w.1.size)(g:FM (w.1.size+5) W W'):Xq w ok D cs ec pl pc W':=⟨h.b.trans (g.mono (by omega)),h.f.of (g.block _ (by omega)),h.e.of (g.block _ (by omega)),h.p.of (g.block _ (by omega)),h.z.of (g.block _ (by omega)),h.y.of (g.block _ (by omega)),h.d.keep fun b o u j A=>by have:=C b j;rw[<-A];simp[FI,g.block b (by omega)]⟩
theorem Xq.below(h:Xq w ok D cs ec pl pc W)(g:bL W W'):Xq w ok D cs ec pl pc W':=⟨h.b.trans (g.mono h.b.size),h.f.below g,h.e.below g,h.p.below g,h.z.below g,h.y.below g,h.d.below g⟩
theorem Xq.ch(h:Xq w ok D cs ec pl pc W)(j:∀c,ok c->c<w.1.size)(A:w.1.size+5<=b)(g:Ch b W W'):Xq w ok D cs ec pl pc W':=
 ⟨g.below (by omega) h.b,g.CV (by omega) h.f,g.CV (by omega) h.e,g.CV (by omega) h.p,g.CV (by omega) h.z,g.CV (by omega) h.y,g.df (fun e=>by have:=j _ e;omega) h.d⟩
theorem Xq.Dc(h:Xq w ok D cs ec pl pc W)(j:∀c,ok c->c<w.1.size)(hd:aG ok W D' cs')(A:ak W' w.1.size 109 cs')(g:Ch w.1.size W W'):Xq w ok D' cs' ec pl pc W':=
 ⟨g.below (by omega) h.b,A,g.CV (by omega) h.e,g.CV (by omega) h.p,g.CV (by omega) h.z,g.CV (by omega) h.y,g.df (fun e=>by have:=j _ e;omega) hd⟩
theorem Xq.Em(h:Xq w ok D cs ec pl pc W)(j:∀c,ok c->c<w.1.size)(A:ak W' (w.1.size+1) 58 ec')(g:Ch (w.1.size+1) W W'):Xq w ok D cs ec' pl pc W':=
 ⟨g.below (by omega) h.b,g.CV (by omega) h.f,A,g.CV (by omega) h.p,g.CV (by omega) h.z,g.CV (by omega) h.y,g.df (fun e=>by have:=j _ e;omega) h.d⟩
end
theorem hc{B:Nat}{x:Ex}(h:ExL (fun c=>j<=c/\c<n) W l2 x)(A:∀g,v.ownBlock=some g->g<j)(C:B<=j):gC.L (fun c=>B<=c/\v.ownBlock≠some c) W l2 x:=ExL.CQ (fun c w=>⟨by have:=w.1;omega,fun e=>by have:=A c e;have:=w.1;omega⟩) h
theorem qd{k n:Int}{sl:Int}{lo:Bool}{o:Int}{cap:Nat}:(gv k n s sl lo o (.slice a m cap)).length=7/\∀v∈gv k n s sl lo o (.slice a m cap),v.oneCell'=true:=⟨z,fun v g=>by simp only[gv,FQ,FO,or_false]at g;rcases g with rfl|rfl|rfl|rfl|rfl|rfl|rfl<;>rfl⟩
theorem wZ{ok:Nat->Prop}{cs:List Fr}{k n:Int}{sl:Int}{lo:Bool}{pc:Int}{l:List Ex}(Y:∀c,ok c->c<w.1.size)(H:Hid (Xq w ok D cs (gv k n s sl lo p0 v0) p1 pc W))(M:Hid (aL gC (w.1.size+5) W (.slice a0 l.length j) l)){R:DF×Ex}(HR:Hid (R=(D,.mk k n s sl lo p0 l)))(hU:l2.length=64:=by rfl):
  Code.wp prog (Jp 4 (f118.body.getD .skip)) (Gb prog f118 (xC ok w R)) ⟨(v1::v2::v3::Pt w.1.size::Pt (w.1.size+1)::Pt (w.1.size+1+1)::Pt (w.1.size+1+1+1)::Pt (w.1.size+1+1+1+1)::v4::v5::v6::v7:: .slice a0 l.length j::l2).toArray,[]⟩ W:=by
 revert l2;apply aN;iterate 64 intro _
 change Code.wp _ _ _ _ _;let ⟨du,a8,b5⟩:=cd
 let ⟨d2,a7,b8⟩:=en
 have a2:aF l.length j:=by
  let ⟨a,cap,h1,h2⟩:=M.form
  cases h1;exact h2
 have hl:=H.d.cells.1;have c6:W.cell? (ad (w.1.size+1) 6)=some v0:=by rw[H.o.e.cell];rfl
 have f6:=H.e.frozen 6;let ⟨F,hN⟩:=eX (l.length)
 have d1:=O a2;have hX:ExL (w.1.size<=·) W (gv k n s sl lo p0 (.slice a0 l.length j)) (.mk k n s sl lo p0 l):=by unfold ExL;exact⟨a0,j,z,a2,ch.CQ (fun c E=>by have:=E;omega) M.DI⟩
 have b6:=M.DI;have b4:=O b6;clear hX b6 a2 M;rw[hN];have HN:=O hN;clear hN;conv in (Jp _ _)=>whnf
 refine wk fun K1 a3=>?_;go_wp2;apply a3;clear a3 K1;have b7:Xq w ok D cs (gv k n s sl lo p0 (.slice a0 F j)) p1 pc (W.setCell (ad (w.1.size+1) 6) (.slice a0 F j)):=H.Em Y (H.e.set1 6 _) (Ch.one 6 _ W);have a9:=ch.keep (fun c o u E Z=>by have c9:=E;rw[(Ch.one 6 (.slice a0 F j) W).cell (show c≠w.1.size+1 by omega)];exact Z) b4
 have Q:=O b7;have a6:=O a9;clear b7 a9 H b4 c6 f6;generalize W.setCell _ _=V at *;let ⟨g,N⟩:=eX (gv k n s sl lo p0 (.slice a0 F j))
 have a1:g.length=7/\∀v∈g,v.oneCell'=true:=N▸qd;rw[N]at Q;have d3:=O N;clear N;go_wp2;have d4:prog.follows .mixedOrders=true:=by kernel_rfl
 let ⟨G,X⟩:=eX (V.drew)
 have A:Hid (Xq w ok D cs g p1 pc G):=O (by rw[<-X];exact Q.below (FB _ V).drew);have d5:Hid (ch (w.1.size+5<=·) G a0 0 l):=O (by rw[<-X];exact a6.keep fun b o v _ hv=>ai (FB _ V).drew b o v hv);clear Q a6;apply al [3] (fun W=>ak W w.1.size 109 cs/\ak W (w.1.size+1) 58 g) d4;rw[X];have HS:Hid (ak G w.1.size 109 cs/\ak G (w.1.size+1) 58 g):=O ⟨A.f,A.e⟩;refine tl 0 75 HS 109 3 w.1.size 0 cs du (fun W S=>S.1.whole) a8 b5 (by rw[hl];exact aj) ?_;refine tl 1 76 HS 58 4 (w.1.size+1) 0 g d2 (fun W S=>S.2.whole) a7 b8 (by rw[a1.1];exact be) ?_;refine nm ?_;refine oD 2 fun U J=>?_;refine an aj (.tmp 6) (.tmp 75) z (w.1.size+1+1+1) cs _ z z A.z z A.d.cells ?_;intro W7 k7 c7;have C:=O (EQ k7 c7);clear k7 c7
 apply J _ _ (fun _=>⟨C.2.CV (by omega) A.f,C.2.CV (by omega) A.e⟩);clear J U;refine oD 3 fun U J=>?_;refine an be (.tmp 7) (.tmp 76) z (w.1.size+1+1+1+1) g _ z z (C.2.CV (by omega) A.y) z a1 ?_;intro W8 k8 c8;have K:=O (EQ k8 c8);clear k8 c8;apply J _ _ nofun;clear J U;simp only[Gf];refine dn ?_;have d0:=K.2.df (fun e=>by have:=Y _ e;omega) (C.2.df (fun e=>by have:=Y _ e;omega) A.d);have b9:=ch.keep (fun c o u E Z=>by have c9:=E;rw[K.o.2.cell (show c≠w.1.size+1+1+1+1 by omega),C.o.2.cell (show c≠w.1.size+1+1+1 by omega)];exact Z) d5
 have a4:xC ok w R (.returned (.tuple #[.agg cs.toArray,.agg g.toArray])) W8:=by rw[HR.o];refine⟨⟨cs,g,z,d0,?_⟩,K.2.below (by omega) (C.2.below (by omega) A.b)⟩;show ExL _ _ _ (.mk k n s sl lo p0 l);rw[<-d3.o,<-HN.o];unfold ExL;exact⟨a0,j,z,d1,ch.CQ (fun c E=>by have c9:=E;show w.1.size<=c;omega) b9⟩
 have a5:=K.2.CV (show w.1.size+1+1+1≠w.1.size+1+1+1+1 by omega) C.1;have HF:=O (EQ a5 a4);clear d0 b9 a5 a4;go_wp2;exact ge a8 b5 aj a7 b8 be HF.1 hl K.1 a1.1 z z z z HF.2
theorem kG{ok:Nat->Prop}{cs:List Fr}{k n:Int}{sl:Int}{lo:Bool}{cap:Nat}{args:List Ex}{pc:Int}(a3:∀c,ok c->c<w.1.size)(h8:aF args.length cap)(k2:args.length<=10000000)(HX:Hid (dT w a args))
  (IH:Hid (∀x∈args,∀D cs xs W,(∀c,ok c->c<W.1.size)->aG ok W D cs->ExL (fun _=>True) W xs x->Jq prog 118 #[.agg cs.toArray,.agg xs.toArray,.agg #[I p0,I pc]] W (xC ok W (DF.ex (p0,pc) x D))))
  (HQ:Hid (Xq w ok D cs (gv k n s sl lo p1 (.slice a args.length cap)) p0 pc W)){R:DF×Ex}(HR:Hid (R=((DF.DI (p0,pc) args D).1,.mk k n s sl lo p1 (DF.DI (p0,pc) args D).2)))(hU:l2.length=69:=by rfl):
  Code.wp prog (Jp 2 (f118.body.getD .skip)) (Gb prog f118 (xC ok w R)) ⟨(v0::v1::v2::Pt w.1.size::Pt (w.1.size+1)::Pt (w.1.size+1+1)::Pt (w.1.size+1+1+1)::Pt (w.1.size+1+1+1+1)::l2).toArray,[]⟩ W:=by
 revert l2;apply aN;iterate 69 intro _
 change Code.wp _ _ _ _ _;let ⟨du,g3,g1⟩:=cd
 let ⟨m0,g4,g2⟩:=en
 let ⟨i9,z9,j0,i5,i6⟩:=em
 let ⟨i8,z8,i2,i7,j2⟩:=mm
 let ⟨i0,z0,g5,h3,h6,g7,h7⟩:=bJ sS
 have g6:prog.underlying 56=some (.slice 58):=by kernel_rfl
 obtain⟨a5,hN⟩:=eX args.length;rw[hN]at h8 HQ k2;have HN:=O hN;clear hN;have l4:=O h8;have g8:=O fun _:True=>k2;clear h8 k2;conv in (Jp _ _)=>whnf
 refine wk fun KK j9=>?_;go_wp2;apply j9;clear j9 KK;refine wk fun KK j9=>?_;go_wp2;go_loopg [12,13] a5 (fun x av iv wr=>∃ (i:Nat) (acc:List Ex) (D2:DF) (f1:List Fr),i<=a5/\x=a5-i/\iv=I i/\acc.length=i/\Hid (aL gC (w.1.size+5) wr av acc)/\Hid (Xq w ok D2 f1 (gv k n s sl lo p1 (.slice a a5 cap)) p0 pc wr)/\Hid (((DF.DI (p0,pc) (args.drop i) D2).1,acc++(DF.DI (p0,pc) (args.drop i) D2).2)=DF.DI (p0,pc) args D));case atStart=>exact⟨0,[],D,cs,FX _,z,z,z,O (aL.nil _ _ _),HQ,O (by simp)⟩
 case round=>
  clear HQ;obtain⟨i,acc,D2,f1,hi,rfl,rfl,b4,HG,HQ,HD⟩:=hrel;obtain⟨ga,d5,rfl,l7⟩:=HG.form;have m4:=O l7;clear l7;have d9:=O b4;clear b4;have c6:wr.cell? (ad (w.1.size+1) 6)=some (.slice a a5 cap):=by rw[HQ.o.e.cell];rfl
  by_cases j4:i<a5
  .have l8:(i:Int)< (a5:Int):=by omega
   have m3:(0:Int)<=(i:Int):=by omega
   have h8:(i:Int)+1<=9223372036854775807:=by have h1:=l4.1;have h2:=l4.2;omega
   have h0:=O fun _:True=>h8;clear h8;go_wp2;have m1:prog.follows .mixedOrders=true:=by kernel_rfl
   obtain⟨A,hV⟩:=eX wr.drew;have a4:Hid (Xq w ok D2 f1 (gv k n s sl lo p1 (.slice a a5 cap)) p0 pc A):=O (by rw[<-hV];exact HQ.below (FB _ wr).drew);have d8:Hid (aL gC (w.1.size+5) A (.slice ga acc.length d5) acc):=O (by rw[<-hV];exact HG.below (FB _ wr).drew);have hl:=a4.d.cells.1;obtain⟨b2,f7,xs,rfl,l6,k1⟩:=dT.at (dT.below HX a4.b) (j:=i) (by rw[HN.o];exact j4);have m2:args.getD i aT∈args:=by rw[FD,FC (by rw[HN.o];exact j4)];exact Gy _
   have l3:=fun W=>IH _ m2 D2 f1 xs W;have l5:args.drop i=args.getD i aT::args.drop (i+1):=by rw[List.drop_eq_getElem_cons (by rw[HN.o];exact j4),FD,FC (by rw[HN.o];exact j4)];rfl
   have j3:=HD.o;rw[l5,DF.DI]at j3;generalize args.getD i aT=x at *;obtain⟨⟨D3,x3⟩,k6⟩:∃q,DF.ex (p0,pc) x D2=q:=⟨_,z⟩;rw[k6]at j3;have h4:=O j3;simp only[k6]at l3;have i4:=O l3;have e2:Hid (ExL (fun _=>True) A xs x):=O k1;have f9:Hid (A.rangeAt b2 (f7+i*7) xs):=O l6;have l9:=k1.cells.1;have S:Hid (w.1.size+5<=A.1.size):=O (by have:=a4.y.lt;omega);clear HQ HG HD j3 l3 k1 l6 l5 k6 c6;apply al [14] (fun W=>FM A.1.size A W) m1;rw[hV];have HS:Hid (FM A.1.size A A):=O (FB _ A);clear hV;have g9:Hid (∀g,(Value.slice ga acc.length d5).ownBlock=some g->g<A.1.size):=O fun g hg=>by obtain⟨cells,-,h5,-⟩:=d8.own;exact(h5.lt g hg).2
   refine tl 0 58 HS 109 3 w.1.size 0 f1 du (fun W hS=> (a4.f.below hS).whole) g3 g1 (by rw[hl];exact aj) ?_;refine fa 1 ?_;refine fK (fun W1=>W1.cell? ⟨w.1.size+1,6,none⟩=some (.slice (some ⟨b2,f7,none⟩) a5 cap)) 2 (fun W1 j7=>by rw[(a4.o.e.below j7).cell];rfl) ?_;refine fa 3 ?_;refine nm ?_;refine fa 4 ?_;refine tl 5 63 HS 58 62 b2 (f7+i*7) xs m0 (fun W hS=>fun j u hu=>ai hS _ _ _ (f9 j u hu)) g4 g2 (by rw[l9];exact be) ?_;refine fK (fun W1=>W1.cell? ⟨w.1.size+1+1,0,none⟩=some (.int .i64 p0)/\W1.cell? ⟨w.1.size+1+1,1,none⟩=some (.int .i64 pc)) 6 (fun W1 j7=>⟨by rw[(a4.o.p.below j7).cell];rfl,by rw[(a4.o.p.below j7).cell];rfl⟩) ?_;refine nm ?_
   refine cj [7,11,12] (by kernel_rfl) ?_ (by decide);intro i hi;simp only[FQ,FO,or_false]at hi;rcases hi with rfl|rfl|rfl
   .refine⟨_,z,z,fun J C=>?_⟩;go_simp;apply (i4 A (fun c F=>by have:=a3 c F;have:=HS.size;have:=S.o;omega) (a4.d.below HS) (e2.sub HS)).mono;rintro e Y1 ⟨⟨K,H,rfl,hd,he⟩,E⟩;have H1:Hid (FM A.1.size A Y1):=O (HS.trans (E.mono HS.size));have j5:Hid (aG ok Y1 D3 K):=O hd;have j8:Hid (ExL (fun c=>A.1.size<=c/\c<Y1.1.size) Y1 H x3):=O he.bound;have z1:A.1.size<=Y1.1.size:=E.size;have f8:A.1.size<=A.1.size:=HS.size;apply C _ _ (fun _=>H1);clear C J hd he E;refine ke 8 ?_;refine nm ?_;refine cj [11,12] (by kernel_rfl) ?_ (by decide);intro i hi;simp only[FQ,FO,or_false]at hi;rcases hi with rfl|rfl
    .refine⟨_,z,z,fun J C=>?_⟩;obtain⟨M,d7⟩:=eX Y1.1.size;refine aw j0 i5 i6 z M d7 ?_;intro Y2 hk E z2;have U:Hid (FM A.1.size A Y2):=O (H1.trans (E.mono H1.size));have e1:=O (j5.below E);clear j5;have f0:=O (j8.o.keep fun c o u _ hu=>ai E c o u hu);clear j8;have e6:=O hk;have f3:A.1.size<=M:=by rw[<-d7];exact H1.o.size
     refine C _ _ (fun _=>U.o) ?_;clear C J hk E;refine nm ?_;refine oD 12 fun J C=>?_;obtain⟨N,d6⟩:∃b,Y2.1.size=b:=⟨_,z⟩;refine aw i2 i7 j2 z N d6 ?_;intro Y3 hk E z3;have H3:Hid (FM A.1.size A Y3):=O (U.o.trans (E.mono U.o.size));have a6:=O (e1.o.below E);clear e1;have a9:=O (f0.o.keep fun c o u _ hu=>ai E c o u hu);clear f0;have b9:=O (e6.o.below E);clear e6;have d4:=O hk;have v3:A.1.size<=N:=by rw[<-d6];exact U.o.size
     refine C _ _ (fun _=>H3.o) ?_;clear C J hk E;refine nm ?_;refine oD 13 fun J C=>?_;refine an aj (.tmp 14) (.tmp 66) z (M) K _ z z b9.o z a6.o.cells ?_;intro W7 k7 c7;have Z:Hid (ak W7 (M) 109 K/\Ch (M) Y3 W7):=O (EQ k7 c7);have H7:Hid (FM A.1.size A W7):=O (c7.below (by omega) H3.o);clear k7 c7;refine C _ _ (fun _=>H7.o) ?_;clear C J;refine oD 14 fun J C=>?_;refine an be (.tmp 15) (.tmp 67) z (N) H _ z z (Z.o.2.CV (by omega) d4.o) z a9.o.cells ?_;intro G k8 c8;have V:Hid (ak G (N) 58 H/\Ch (N) W7 G):=O (EQ k8 c8);have H8:Hid (FM A.1.size A G):=O (c8.below (by omega) H7.o);clear k8 c8;refine C _ _ (fun h=>by cases h) ?_;clear C J;simp only[Gf];refine dn ?_
     have a2:aG ok G D3 K:=V.o.2.df (fun e=>by have:=a3 _ e;have:=S.o;omega) (Z.o.2.df (fun e=>by have:=a3 _ e;have:=S.o;omega) a6.o);have a0:ExL (fun c=>A.1.size<=c/\c<G.1.size) G H x3:=(ExL.CQ (fun c F=>by have:=F.1;omega) (V.o.2.ex (fun c F=>by have:=F.1;have:=F.2;omega) (Z.o.2.ex (fun c F=>by have:=F.1;have:=F.2;omega) a9.o)):ExL (fun c=>A.1.size<=c) G H x3).bound;have m5:ak G (M) 109 K:=V.o.2.CV (by omega) Z.o.1;have a1:ak G (N) 58 H:=V.o.1;have X:w.1.size+5<=M:=by have:=S.o;omega
     have Y:w.1.size+5<=N:=by have:=S.o;omega
     have HF:=O (EQ a2 (EQ a0 (EQ m5 (EQ a1 (EQ X Y)))));clear a2 a0 m5 a1 X Y Z V H7 a6 a9 b9 d4 H3 z1 f8 z2 f3 z3 v3;obtain⟨a2,a0,m5,a1,X,Y⟩:=HF.o;have a7:Hid (Xq w ok D2 f1 (gv k n s sl lo p1 (.slice (some ⟨b2,f7,none⟩) a5 cap)) p0 pc G):=O (a4.o.below H8.o);have d2:=O (d8.o.below H8.o);have d0:=O m5;have b7:=O a1;have b6:=O a0;have a8:=O a2;have e9:=O H8.o.size;have e3:=O (EQ X Y);clear HF a4 d8 e2 f9 m5 a1 a0 a2 H8 X Y;have d3:=O a8.o.cells;have b4:acc.length<=10000000:=by have:=d9.o;have:=g8.o trivial;omega
     have e5:=O fun _:True=>b4;clear b4;go_wp2_with (first
      | ((with_reducible refine cp 68 (.load 109 _) ?_);refine ac g3 g1 aj z (.tmp 14) z M K z d0 d3.o.1 ?_)
      | ((with_reducible refine cY (.store 109 _ _) ?_);refine af aj z (.tmp 3) (.tmp 68) z w.1.size K _ z z a7.o.f hl d3.o ?_;intro W9 k9 c9;have Q:=O (EQ k9 c9);clear k9 c9;have e8:=O (a7.o.Dc a3 a8.o Q.o.1 Q.o.2);have f5:=O (Q.o.2.grow d2.o (by omega));have d1:=O (Q.o.2.ex (fun c F=>by have:=F.1;have:=S.o;omega) b6.o);have f6:=O (Q.o.2.CV (by have:=e3.o;omega) b7.o);have e7:A.1.size<=W9.1.size:=(by rw[Q.o.2.size];exact e9.o);have HL:=O (hc (v:= .slice ga acc.length d5) d1.o g9.o S.o);have b5:w.1.size+5<=W9.1.size:=(by have:=S.o;omega);have f4:=O b5;have b8:=d1.o.cells.1;have h9:=bE #[I 0,I 0,.string ⟨#[]⟩,I 0,.bool false,I 0,.slice none 0 0] H (by rw[b8];rfl);clear Q a7 d2 b6 a8 d0 e7 b7 b5)
      | ((with_reducible refine cp 70 (.load 58 _) ?_);refine ac g4 g2 be z (.tmp 15) z N H z f6 b8 ?_)
      | (at_builtin;refine bg gC z (.tmp 69) (.tmp 71) 56 z i0 z0 _ g6 g5 h3 h6 z g7 (by decide) h7 (w.1.size+5) W9 _ (.slice ga acc.length d5) acc z f5 H x3 HL z z (e5.o trivial) f4.o ?_;intro gb i1 j1 e0 f2 i3)
      |fail)
     go_roundg (a5- (i+1));case measure=>omega
     case rel=>
      refine⟨i+1,acc++[x3],D3,K,by omega,z,?_,by have:=d9.o;simp;omega,e0,O (e8.o.DZ a3 f2.o),O ?_⟩
      .have hp:=h0.o trivial;exact congrArg (Gr .i64) ((Gi _ (by omega)).trans (by omega))
      .rw[<-h4.o];simp
    .refine⟨_,z,z,fun J C=>?_⟩;obtain⟨N,d6⟩:∃b,Y1.1.size=b:=⟨_,z⟩;refine aw i2 i7 j2 z N d6 ?_;intro Y2 hk E z2;have U:Hid (FM A.1.size A Y2):=O (H1.o.trans (E.mono H1.o.size));have e1:=O (j5.o.below E);clear j5;have f0:=O (j8.o.keep fun c o u _ hu=>ai E c o u hu);clear j8;have e4:=O hk;have f3:A.1.size<=N:=by rw[<-d6];exact H1.o.size
     refine C _ _ (fun _=>U.o) ?_;clear C J hk E;refine nm ?_;refine oD 11 fun J C=>?_;obtain⟨M,d7⟩:∃b,Y2.1.size=b:=⟨_,z⟩;refine aw j0 i5 i6 z M d7 ?_;intro Y3 hk E z3;have H3:Hid (FM A.1.size A Y3):=O (U.o.trans (E.mono U.o.size));have a6:=O (e1.o.below E);clear e1;have a9:=O (f0.o.keep fun c o u _ hu=>ai E c o u hu);clear f0;have d4:=O (e4.o.below E);clear e4;have b9:=O hk;have v3:A.1.size<=M:=by rw[<-d7];exact U.o.size
     refine C _ _ (fun _=>H3.o) ?_;clear C J hk E;refine nm ?_;refine oD 13 fun J C=>?_;refine an aj (.tmp 14) (.tmp 66) z (M) K _ z z b9.o z a6.o.cells ?_;intro W7 k7 c7;have Z:Hid (ak W7 (M) 109 K/\Ch (M) Y3 W7):=O (EQ k7 c7);have H7:Hid (FM A.1.size A W7):=O (c7.below (by omega) H3.o);clear k7 c7;refine C _ _ (fun _=>H7.o) ?_;clear C J;refine oD 14 fun J C=>?_;refine an be (.tmp 15) (.tmp 67) z (N) H _ z z (Z.o.2.CV (by omega) d4.o) z a9.o.cells ?_;intro G k8 c8;have V:Hid (ak G (N) 58 H/\Ch (N) W7 G):=O (EQ k8 c8);have H8:Hid (FM A.1.size A G):=O (c8.below (by omega) H7.o);clear k8 c8;refine C _ _ (fun h=>by cases h) ?_;clear C J;simp only[Gf];refine dn ?_
     have a2:aG ok G D3 K:=V.o.2.df (fun e=>by have:=a3 _ e;have:=S.o;omega) (Z.o.2.df (fun e=>by have:=a3 _ e;have:=S.o;omega) a6.o);have a0:ExL (fun c=>A.1.size<=c/\c<G.1.size) G H x3:=(ExL.CQ (fun c F=>by have:=F.1;omega) (V.o.2.ex (fun c F=>by have:=F.1;have:=F.2;omega) (Z.o.2.ex (fun c F=>by have:=F.1;have:=F.2;omega) a9.o)):ExL (fun c=>A.1.size<=c) G H x3).bound;have m5:ak G (M) 109 K:=V.o.2.CV (by omega) Z.o.1;have a1:ak G (N) 58 H:=V.o.1;have X:w.1.size+5<=M:=by have:=S.o;omega
     have Y:w.1.size+5<=N:=by have:=S.o;omega
     have HF:=O (EQ a2 (EQ a0 (EQ m5 (EQ a1 (EQ X Y)))));clear a2 a0 m5 a1 X Y Z V H7 a6 a9 b9 d4 H3 z1 f8 z2 f3 z3 v3;obtain⟨a2,a0,m5,a1,X,Y⟩:=HF.o;have a7:Hid (Xq w ok D2 f1 (gv k n s sl lo p1 (.slice (some ⟨b2,f7,none⟩) a5 cap)) p0 pc G):=O (a4.o.below H8.o);have d2:=O (d8.o.below H8.o);have d0:=O m5;have b7:=O a1;have b6:=O a0;have a8:=O a2;have e9:=O H8.o.size;have e3:=O (EQ X Y);clear HF a4 d8 e2 f9 m5 a1 a0 a2 H8 X Y;have d3:=O a8.o.cells;have b4:acc.length<=10000000:=by have:=d9.o;have:=g8.o trivial;omega
     have e5:=O fun _:True=>b4;clear b4;go_wp2_with (first
      | ((with_reducible refine cp 68 (.load 109 _) ?_);refine ac g3 g1 aj z (.tmp 14) z M K z d0 d3.o.1 ?_)
      | ((with_reducible refine cY (.store 109 _ _) ?_);refine af aj z (.tmp 3) (.tmp 68) z w.1.size K _ z z a7.o.f hl d3.o ?_;intro W9 k9 c9;have Q:=O (EQ k9 c9);clear k9 c9;have e8:=O (a7.o.Dc a3 a8.o Q.o.1 Q.o.2);have f5:=O (Q.o.2.grow d2.o (by omega));have d1:=O (Q.o.2.ex (fun c F=>by have:=F.1;have:=S.o;omega) b6.o);have f6:=O (Q.o.2.CV (by have:=e3.o;omega) b7.o);have e7:A.1.size<=W9.1.size:=(by rw[Q.o.2.size];exact e9.o);have HL:=O (hc (v:= .slice ga acc.length d5) d1.o g9.o S.o);have b5:w.1.size+5<=W9.1.size:=(by have:=S.o;omega);have f4:=O b5;have b8:=d1.o.cells.1;have h9:=bE #[I 0,I 0,.string ⟨#[]⟩,I 0,.bool false,I 0,.slice none 0 0] H (by rw[b8];rfl);clear Q a7 d2 b6 a8 d0 e7 b7 b5)
      | ((with_reducible refine cp 70 (.load 58 _) ?_);refine ac g4 g2 be z (.tmp 15) z N H z f6 b8 ?_)
      | (at_builtin;refine bg gC z (.tmp 69) (.tmp 71) 56 z i0 z0 _ g6 g5 h3 h6 z g7 (by decide) h7 (w.1.size+5) W9 _ (.slice ga acc.length d5) acc z f5 H x3 HL z z (e5.o trivial) f4.o ?_;intro gb i1 j1 e0 f2 i3)
      |fail)
     go_roundg (a5- (i+1));case measure=>omega
     case rel=>
      refine⟨i+1,acc++[x3],D3,K,by omega,z,?_,by have:=d9.o;simp;omega,e0,O (e8.o.DZ a3 f2.o),O ?_⟩
      .have hp:=h0.o trivial;exact congrArg (Gr .i64) ((Gi _ (by omega)).trans (by omega))
      .rw[<-h4.o];simp
   .refine⟨_,z,z,fun J C=>?_⟩;obtain⟨M,d7⟩:∃b,A.1.size=b:=⟨_,z⟩;refine aw j0 i5 i6 z M d7 ?_;intro Y1 hk E z1;have H1:Hid (FM A.1.size A Y1):=O (HS.o.trans (E.mono HS.o.size));have j6:=O hk;have f8:A.1.size<=M:=by rw[<-d7];exact HS.o.size
    refine C _ _ (fun _=>H1.o) ?_;clear C J hk E;refine nm ?_;refine cj [7,12] (by kernel_rfl) ?_ (by decide);intro i hi;simp only[FQ,FO,or_false]at hi;rcases hi with rfl|rfl
    .refine⟨_,z,z,fun J C=>?_⟩;go_simp;refine(i4.o Y1 (fun c F=>by have:=a3 c F;have:=H1.o.size;have:=S.o;omega) (a4.o.d.below H1.o) (e2.o.sub H1.o)).mono ?_;rintro e Y2 ⟨⟨K,H,rfl,hd,he⟩,E⟩;have U:Hid (FM A.1.size A Y2):=O (H1.o.trans (E.mono H1.o.size));have e6:=O (j6.o.below E);clear j6;have e1:Hid (aG ok Y2 D3 K):=O hd;have f0:Hid (ExL (fun c=>Y1.1.size<=c/\c<Y2.1.size) Y2 H x3):=O he.bound;have z2:Y1.1.size<=Y2.1.size:=E.size;have f3:A.1.size<=Y1.1.size:=H1.o.size;refine C _ _ (fun _=>U.o) ?_;clear C J hd he E;refine tk 8 (some 57) U ?_;refine tk 9 (some 66) U ?_;refine tk 10 (some 67) U ?_;refine nm ?_;refine oD 12 fun J C=>?_;obtain⟨N,d6⟩:∃b,Y2.1.size=b:=⟨_,z⟩;refine aw i2 i7 j2 z N d6 ?_
     intro Y3 hk E z3;have H3:Hid (FM A.1.size A Y3):=O (U.o.trans (E.mono U.o.size));have a6:=O (e1.o.below E);clear e1;have a9:=O (f0.o.keep fun c o u _ hu=>ai E c o u hu);clear f0;have b9:=O (e6.o.below E);clear e6;have d4:=O hk;have v3:A.1.size<=N:=by rw[<-d6];exact U.o.size
     refine C _ _ (fun _=>H3.o) ?_;clear C J hk E;refine nm ?_;refine oD 13 fun J C=>?_;refine an aj (.tmp 14) (.tmp 66) z (M) K _ z z b9.o z a6.o.cells ?_;intro W7 k7 c7;have Z:Hid (ak W7 (M) 109 K/\Ch (M) Y3 W7):=O (EQ k7 c7);have H7:Hid (FM A.1.size A W7):=O (c7.below (by omega) H3.o);clear k7 c7;refine C _ _ (fun _=>H7.o) ?_;clear C J;refine oD 14 fun J C=>?_;refine an be (.tmp 15) (.tmp 67) z (N) H _ z z (Z.o.2.CV (by omega) d4.o) z a9.o.cells ?_;intro G k8 c8;have V:Hid (ak G (N) 58 H/\Ch (N) W7 G):=O (EQ k8 c8);have H8:Hid (FM A.1.size A G):=O (c8.below (by omega) H7.o);clear k8 c8;refine C _ _ (fun h=>by cases h) ?_;clear C J;simp only[Gf];refine dn ?_
     have a2:aG ok G D3 K:=V.o.2.df (fun e=>by have:=a3 _ e;have:=S.o;omega) (Z.o.2.df (fun e=>by have:=a3 _ e;have:=S.o;omega) a6.o);have a0:ExL (fun c=>A.1.size<=c/\c<G.1.size) G H x3:=(ExL.CQ (fun c F=>by have:=F.1;omega) (V.o.2.ex (fun c F=>by have:=F.1;have:=F.2;omega) (Z.o.2.ex (fun c F=>by have:=F.1;have:=F.2;omega) a9.o)):ExL (fun c=>A.1.size<=c) G H x3).bound;have m5:ak G (M) 109 K:=V.o.2.CV (by omega) Z.o.1;have a1:ak G (N) 58 H:=V.o.1;have X:w.1.size+5<=M:=by have:=S.o;omega
     have Y:w.1.size+5<=N:=by have:=S.o;omega
     have HF:=O (EQ a2 (EQ a0 (EQ m5 (EQ a1 (EQ X Y)))));clear a2 a0 m5 a1 X Y Z V H7 a6 a9 b9 d4 H3 z1 f8 z2 f3 z3 v3;obtain⟨a2,a0,m5,a1,X,Y⟩:=HF.o;have a7:Hid (Xq w ok D2 f1 (gv k n s sl lo p1 (.slice (some ⟨b2,f7,none⟩) a5 cap)) p0 pc G):=O (a4.o.below H8.o);have d2:=O (d8.o.below H8.o);have d0:=O m5;have b7:=O a1;have b6:=O a0;have a8:=O a2;have e9:=O H8.o.size;have e3:=O (EQ X Y);clear HF a4 d8 e2 f9 m5 a1 a0 a2 H8 X Y;have d3:=O a8.o.cells;have b4:acc.length<=10000000:=by have:=d9.o;have:=g8.o trivial;omega
     have e5:=O fun _:True=>b4;clear b4;go_wp2_with (first
      | ((with_reducible refine cp 68 (.load 109 _) ?_);refine ac g3 g1 aj z (.tmp 14) z M K z d0 d3.o.1 ?_)
      | ((with_reducible refine cY (.store 109 _ _) ?_);refine af aj z (.tmp 3) (.tmp 68) z w.1.size K _ z z a7.o.f hl d3.o ?_;intro W9 k9 c9;have Q:=O (EQ k9 c9);clear k9 c9;have e8:=O (a7.o.Dc a3 a8.o Q.o.1 Q.o.2);have f5:=O (Q.o.2.grow d2.o (by omega));have d1:=O (Q.o.2.ex (fun c F=>by have:=F.1;have:=S.o;omega) b6.o);have f6:=O (Q.o.2.CV (by have:=e3.o;omega) b7.o);have e7:A.1.size<=W9.1.size:=(by rw[Q.o.2.size];exact e9.o);have HL:=O (hc (v:= .slice ga acc.length d5) d1.o g9.o S.o);have b5:w.1.size+5<=W9.1.size:=(by have:=S.o;omega);have f4:=O b5;have b8:=d1.o.cells.1;have h9:=bE #[I 0,I 0,.string ⟨#[]⟩,I 0,.bool false,I 0,.slice none 0 0] H (by rw[b8];rfl);clear Q a7 d2 b6 a8 d0 e7 b7 b5)
      | ((with_reducible refine cp 70 (.load 58 _) ?_);refine ac g4 g2 be z (.tmp 15) z N H z f6 b8 ?_)
      | (at_builtin;refine bg gC z (.tmp 69) (.tmp 71) 56 z i0 z0 _ g6 g5 h3 h6 z g7 (by decide) h7 (w.1.size+5) W9 _ (.slice ga acc.length d5) acc z f5 H x3 HL z z (e5.o trivial) f4.o ?_;intro gb i1 j1 e0 f2 i3)
      |fail)
     go_roundg (a5- (i+1));case measure=>omega
     case rel=>
      refine⟨i+1,acc++[x3],D3,K,by omega,z,?_,by have:=d9.o;simp;omega,e0,O (e8.o.DZ a3 f2.o),O ?_⟩
      .have hp:=h0.o trivial;exact congrArg (Gr .i64) ((Gi _ (by omega)).trans (by omega))
      .rw[<-h4.o];simp
    .refine⟨_,z,z,fun J C=>?_⟩;obtain⟨N,d6⟩:∃b,Y1.1.size=b:=⟨_,z⟩;refine aw i2 i7 j2 z N d6 ?_;intro Y2 hk E z2;have U:Hid (FM A.1.size A Y2):=O (H1.o.trans (E.mono H1.o.size));have e6:=O (j6.o.below E);clear j6;have e4:=O hk;have f3:A.1.size<=N:=by rw[<-d6];exact H1.o.size
     refine C _ _ (fun _=>U.o) ?_;clear C J hk E;refine nm ?_;refine oD 7 fun J C=>?_;go_simp;refine(i4.o Y2 (fun c F=>by have:=a3 c F;have:=U.o.size;have:=S.o;omega) (a4.o.d.below U.o) (e2.o.sub U.o)).mono ?_;rintro e Y3 ⟨⟨K,H,rfl,hd,he⟩,E⟩;have H3:Hid (FM A.1.size A Y3):=O (U.o.trans (E.mono U.o.size));have b9:=O (e6.o.below E);clear e6;have d4:=O (e4.o.below E);clear e4;have a6:Hid (aG ok Y3 D3 K):=O hd;have a9:Hid (ExL (fun c=>Y2.1.size<=c/\c<Y3.1.size) Y3 H x3):=O he.bound;have z3:Y2.1.size<=Y3.1.size:=E.size;have v3:A.1.size<=Y2.1.size:=U.o.size;refine C _ _ (fun _=>H3.o) ?_;clear C J hd he E;refine tk 8 (some 57) H3 ?_;refine tk 9 (some 66) H3 ?_;refine tk 10 (some 67) H3 ?_;refine nm ?_
     refine oD 13 fun J C=>?_;refine an aj (.tmp 14) (.tmp 66) z (M) K _ z z b9.o z a6.o.cells ?_;intro W7 k7 c7;have Z:Hid (ak W7 (M) 109 K/\Ch (M) Y3 W7):=O (EQ k7 c7);have H7:Hid (FM A.1.size A W7):=O (c7.below (by omega) H3.o);clear k7 c7;refine C _ _ (fun _=>H7.o) ?_;clear C J;refine oD 14 fun J C=>?_;refine an be (.tmp 15) (.tmp 67) z (N) H _ z z (Z.o.2.CV (by omega) d4.o) z a9.o.cells ?_;intro G k8 c8;have V:Hid (ak G (N) 58 H/\Ch (N) W7 G):=O (EQ k8 c8);have H8:Hid (FM A.1.size A G):=O (c8.below (by omega) H7.o);clear k8 c8;refine C _ _ (fun h=>by cases h) ?_;clear C J;simp only[Gf];refine dn ?_
     have a2:aG ok G D3 K:=V.o.2.df (fun e=>by have:=a3 _ e;have:=S.o;omega) (Z.o.2.df (fun e=>by have:=a3 _ e;have:=S.o;omega) a6.o);have a0:ExL (fun c=>A.1.size<=c/\c<G.1.size) G H x3:=(ExL.CQ (fun c F=>by have:=F.1;omega) (V.o.2.ex (fun c F=>by have:=F.1;have:=F.2;omega) (Z.o.2.ex (fun c F=>by have:=F.1;have:=F.2;omega) a9.o)):ExL (fun c=>A.1.size<=c) G H x3).bound;have m5:ak G (M) 109 K:=V.o.2.CV (by omega) Z.o.1;have a1:ak G (N) 58 H:=V.o.1;have X:w.1.size+5<=M:=by have:=S.o;omega
     have Y:w.1.size+5<=N:=by have:=S.o;omega
     have HF:=O (EQ a2 (EQ a0 (EQ m5 (EQ a1 (EQ X Y)))));clear a2 a0 m5 a1 X Y Z V H7 a6 a9 b9 d4 H3 z1 f8 z2 f3 z3 v3;obtain⟨a2,a0,m5,a1,X,Y⟩:=HF.o;have a7:Hid (Xq w ok D2 f1 (gv k n s sl lo p1 (.slice (some ⟨b2,f7,none⟩) a5 cap)) p0 pc G):=O (a4.o.below H8.o);have d2:=O (d8.o.below H8.o);have d0:=O m5;have b7:=O a1;have b6:=O a0;have a8:=O a2;have e9:=O H8.o.size;have e3:=O (EQ X Y);clear HF a4 d8 e2 f9 m5 a1 a0 a2 H8 X Y;have d3:=O a8.o.cells;have b4:acc.length<=10000000:=by have:=d9.o;have:=g8.o trivial;omega
     have e5:=O fun _:True=>b4;clear b4;go_wp2_with (first
      | ((with_reducible refine cp 68 (.load 109 _) ?_);refine ac g3 g1 aj z (.tmp 14) z M K z d0 d3.o.1 ?_)
      | ((with_reducible refine cY (.store 109 _ _) ?_);refine af aj z (.tmp 3) (.tmp 68) z w.1.size K _ z z a7.o.f hl d3.o ?_;intro W9 k9 c9;have Q:=O (EQ k9 c9);clear k9 c9;have e8:=O (a7.o.Dc a3 a8.o Q.o.1 Q.o.2);have f5:=O (Q.o.2.grow d2.o (by omega));have d1:=O (Q.o.2.ex (fun c F=>by have:=F.1;have:=S.o;omega) b6.o);have f6:=O (Q.o.2.CV (by have:=e3.o;omega) b7.o);have e7:A.1.size<=W9.1.size:=(by rw[Q.o.2.size];exact e9.o);have HL:=O (hc (v:= .slice ga acc.length d5) d1.o g9.o S.o);have b5:w.1.size+5<=W9.1.size:=(by have:=S.o;omega);have f4:=O b5;have b8:=d1.o.cells.1;have h9:=bE #[I 0,I 0,.string ⟨#[]⟩,I 0,.bool false,I 0,.slice none 0 0] H (by rw[b8];rfl);clear Q a7 d2 b6 a8 d0 e7 b7 b5)
      | ((with_reducible refine cp 70 (.load 58 _) ?_);refine ac g4 g2 be z (.tmp 15) z N H z f6 b8 ?_)
      | (at_builtin;refine bg gC z (.tmp 69) (.tmp 71) 56 z i0 z0 _ g6 g5 h3 h6 z g7 (by decide) h7 (w.1.size+5) W9 _ (.slice ga acc.length d5) acc z f5 H x3 HL z z (e5.o trivial) f4.o ?_;intro gb i1 j1 e0 f2 i3)
      |fail)
     go_roundg (a5- (i+1));case measure=>omega
     case rel=>
      refine⟨i+1,acc++[x3],D3,K,by omega,z,?_,by have:=d9.o;simp;omega,e0,O (e8.o.DZ a3 f2.o),O ?_⟩
      .have hp:=h0.o trivial;exact congrArg (Gr .i64) ((Gi _ (by omega)).trans (by omega))
      .rw[<-h4.o];simp
   .refine⟨_,z,z,fun J C=>?_⟩;obtain⟨N,d6⟩:∃b,A.1.size=b:=⟨_,z⟩;refine aw i2 i7 j2 z N d6 ?_;intro Y1 hk E z1;have H1:Hid (FM A.1.size A Y1):=O (HS.o.trans (E.mono HS.o.size));have k0:=O hk;have f8:A.1.size<=N:=by rw[<-d6];exact HS.o.size
    refine C _ _ (fun _=>H1.o) ?_;clear C J hk E;refine nm ?_;refine cj [7,11] (by kernel_rfl) ?_ (by decide);intro i hi;simp only[FQ,FO,or_false]at hi;rcases hi with rfl|rfl
    .refine⟨_,z,z,fun J C=>?_⟩;go_simp;refine(i4.o Y1 (fun c F=>by have:=a3 c F;have:=H1.o.size;have:=S.o;omega) (a4.o.d.below H1.o) (e2.o.sub H1.o)).mono ?_;rintro e Y2 ⟨⟨K,H,rfl,hd,he⟩,E⟩;have U:Hid (FM A.1.size A Y2):=O (H1.o.trans (E.mono H1.o.size));have e4:=O (k0.o.below E);clear k0;have e1:Hid (aG ok Y2 D3 K):=O hd;have f0:Hid (ExL (fun c=>Y1.1.size<=c/\c<Y2.1.size) Y2 H x3):=O he.bound;have z2:Y1.1.size<=Y2.1.size:=E.size;have f3:A.1.size<=Y1.1.size:=H1.o.size;refine C _ _ (fun _=>U.o) ?_;clear C J hd he E;refine tk 8 (some 57) U ?_;refine tk 9 (some 66) U ?_;refine tk 10 (some 67) U ?_;refine nm ?_;refine oD 11 fun J C=>?_;obtain⟨M,d7⟩:∃b,Y2.1.size=b:=⟨_,z⟩;refine aw j0 i5 i6 z M d7 ?_
     intro Y3 hk E z3;have H3:Hid (FM A.1.size A Y3):=O (U.o.trans (E.mono U.o.size));have a6:=O (e1.o.below E);clear e1;have a9:=O (f0.o.keep fun c o u _ hu=>ai E c o u hu);clear f0;have d4:=O (e4.o.below E);clear e4;have b9:=O hk;have v3:A.1.size<=M:=by rw[<-d7];exact U.o.size
     refine C _ _ (fun _=>H3.o) ?_;clear C J hk E;refine nm ?_;refine oD 13 fun J C=>?_;refine an aj (.tmp 14) (.tmp 66) z (M) K _ z z b9.o z a6.o.cells ?_;intro W7 k7 c7;have Z:Hid (ak W7 (M) 109 K/\Ch (M) Y3 W7):=O (EQ k7 c7);have H7:Hid (FM A.1.size A W7):=O (c7.below (by omega) H3.o);clear k7 c7;refine C _ _ (fun _=>H7.o) ?_;clear C J;refine oD 14 fun J C=>?_;refine an be (.tmp 15) (.tmp 67) z (N) H _ z z (Z.o.2.CV (by omega) d4.o) z a9.o.cells ?_;intro G k8 c8;have V:Hid (ak G (N) 58 H/\Ch (N) W7 G):=O (EQ k8 c8);have H8:Hid (FM A.1.size A G):=O (c8.below (by omega) H7.o);clear k8 c8;refine C _ _ (fun h=>by cases h) ?_;clear C J;simp only[Gf];refine dn ?_
     have a2:aG ok G D3 K:=V.o.2.df (fun e=>by have:=a3 _ e;have:=S.o;omega) (Z.o.2.df (fun e=>by have:=a3 _ e;have:=S.o;omega) a6.o);have a0:ExL (fun c=>A.1.size<=c/\c<G.1.size) G H x3:=(ExL.CQ (fun c F=>by have:=F.1;omega) (V.o.2.ex (fun c F=>by have:=F.1;have:=F.2;omega) (Z.o.2.ex (fun c F=>by have:=F.1;have:=F.2;omega) a9.o)):ExL (fun c=>A.1.size<=c) G H x3).bound;have m5:ak G (M) 109 K:=V.o.2.CV (by omega) Z.o.1;have a1:ak G (N) 58 H:=V.o.1;have X:w.1.size+5<=M:=by have:=S.o;omega
     have Y:w.1.size+5<=N:=by have:=S.o;omega
     have HF:=O (EQ a2 (EQ a0 (EQ m5 (EQ a1 (EQ X Y)))));clear a2 a0 m5 a1 X Y Z V H7 a6 a9 b9 d4 H3 z1 f8 z2 f3 z3 v3;obtain⟨a2,a0,m5,a1,X,Y⟩:=HF.o;have a7:Hid (Xq w ok D2 f1 (gv k n s sl lo p1 (.slice (some ⟨b2,f7,none⟩) a5 cap)) p0 pc G):=O (a4.o.below H8.o);have d2:=O (d8.o.below H8.o);have d0:=O m5;have b7:=O a1;have b6:=O a0;have a8:=O a2;have e9:=O H8.o.size;have e3:=O (EQ X Y);clear HF a4 d8 e2 f9 m5 a1 a0 a2 H8 X Y;have d3:=O a8.o.cells;have b4:acc.length<=10000000:=by have:=d9.o;have:=g8.o trivial;omega
     have e5:=O fun _:True=>b4;clear b4;go_wp2_with (first
      | ((with_reducible refine cp 68 (.load 109 _) ?_);refine ac g3 g1 aj z (.tmp 14) z M K z d0 d3.o.1 ?_)
      | ((with_reducible refine cY (.store 109 _ _) ?_);refine af aj z (.tmp 3) (.tmp 68) z w.1.size K _ z z a7.o.f hl d3.o ?_;intro W9 k9 c9;have Q:=O (EQ k9 c9);clear k9 c9;have e8:=O (a7.o.Dc a3 a8.o Q.o.1 Q.o.2);have f5:=O (Q.o.2.grow d2.o (by omega));have d1:=O (Q.o.2.ex (fun c F=>by have:=F.1;have:=S.o;omega) b6.o);have f6:=O (Q.o.2.CV (by have:=e3.o;omega) b7.o);have e7:A.1.size<=W9.1.size:=(by rw[Q.o.2.size];exact e9.o);have HL:=O (hc (v:= .slice ga acc.length d5) d1.o g9.o S.o);have b5:w.1.size+5<=W9.1.size:=(by have:=S.o;omega);have f4:=O b5;have b8:=d1.o.cells.1;have h9:=bE #[I 0,I 0,.string ⟨#[]⟩,I 0,.bool false,I 0,.slice none 0 0] H (by rw[b8];rfl);clear Q a7 d2 b6 a8 d0 e7 b7 b5)
      | ((with_reducible refine cp 70 (.load 58 _) ?_);refine ac g4 g2 be z (.tmp 15) z N H z f6 b8 ?_)
      | (at_builtin;refine bg gC z (.tmp 69) (.tmp 71) 56 z i0 z0 _ g6 g5 h3 h6 z g7 (by decide) h7 (w.1.size+5) W9 _ (.slice ga acc.length d5) acc z f5 H x3 HL z z (e5.o trivial) f4.o ?_;intro gb i1 j1 e0 f2 i3)
      |fail)
     go_roundg (a5- (i+1));case measure=>omega
     case rel=>
      refine⟨i+1,acc++[x3],D3,K,by omega,z,?_,by have:=d9.o;simp;omega,e0,O (e8.o.DZ a3 f2.o),O ?_⟩
      .have hp:=h0.o trivial;exact congrArg (Gr .i64) ((Gi _ (by omega)).trans (by omega))
      .rw[<-h4.o];simp
    .refine⟨_,z,z,fun J C=>?_⟩;obtain⟨M,d7⟩:∃b,Y1.1.size=b:=⟨_,z⟩;refine aw j0 i5 i6 z M d7 ?_;intro Y2 hk E z2;have U:Hid (FM A.1.size A Y2):=O (H1.o.trans (E.mono H1.o.size));have e4:=O (k0.o.below E);clear k0;have e6:=O hk;have f3:A.1.size<=M:=by rw[<-d7];exact H1.o.size
     refine C _ _ (fun _=>U.o) ?_;clear C J hk E;refine nm ?_;refine oD 7 fun J C=>?_;go_simp;refine(i4.o Y2 (fun c F=>by have:=a3 c F;have:=U.o.size;have:=S.o;omega) (a4.o.d.below U.o) (e2.o.sub U.o)).mono ?_;rintro e Y3 ⟨⟨K,H,rfl,hd,he⟩,E⟩;have H3:Hid (FM A.1.size A Y3):=O (U.o.trans (E.mono U.o.size));have b9:=O (e6.o.below E);clear e6;have d4:=O (e4.o.below E);clear e4;have a6:Hid (aG ok Y3 D3 K):=O hd;have a9:Hid (ExL (fun c=>Y2.1.size<=c/\c<Y3.1.size) Y3 H x3):=O he.bound;have z3:Y2.1.size<=Y3.1.size:=E.size;have v3:A.1.size<=Y2.1.size:=U.o.size;refine C _ _ (fun _=>H3.o) ?_;clear C J hd he E;refine tk 8 (some 57) H3 ?_;refine tk 9 (some 66) H3 ?_;refine tk 10 (some 67) H3 ?_;refine nm ?_
     refine oD 13 fun J C=>?_;refine an aj (.tmp 14) (.tmp 66) z (M) K _ z z b9.o z a6.o.cells ?_;intro W7 k7 c7;have Z:Hid (ak W7 (M) 109 K/\Ch (M) Y3 W7):=O (EQ k7 c7);have H7:Hid (FM A.1.size A W7):=O (c7.below (by omega) H3.o);clear k7 c7;refine C _ _ (fun _=>H7.o) ?_;clear C J;refine oD 14 fun J C=>?_;refine an be (.tmp 15) (.tmp 67) z (N) H _ z z (Z.o.2.CV (by omega) d4.o) z a9.o.cells ?_;intro G k8 c8;have V:Hid (ak G (N) 58 H/\Ch (N) W7 G):=O (EQ k8 c8);have H8:Hid (FM A.1.size A G):=O (c8.below (by omega) H7.o);clear k8 c8;refine C _ _ (fun h=>by cases h) ?_;clear C J;simp only[Gf];refine dn ?_
     have a2:aG ok G D3 K:=V.o.2.df (fun e=>by have:=a3 _ e;have:=S.o;omega) (Z.o.2.df (fun e=>by have:=a3 _ e;have:=S.o;omega) a6.o);have a0:ExL (fun c=>A.1.size<=c/\c<G.1.size) G H x3:=(ExL.CQ (fun c F=>by have:=F.1;omega) (V.o.2.ex (fun c F=>by have:=F.1;have:=F.2;omega) (Z.o.2.ex (fun c F=>by have:=F.1;have:=F.2;omega) a9.o)):ExL (fun c=>A.1.size<=c) G H x3).bound;have m5:ak G (M) 109 K:=V.o.2.CV (by omega) Z.o.1;have a1:ak G (N) 58 H:=V.o.1;have X:w.1.size+5<=M:=by have:=S.o;omega
     have Y:w.1.size+5<=N:=by have:=S.o;omega
     have HF:=O (EQ a2 (EQ a0 (EQ m5 (EQ a1 (EQ X Y)))));clear a2 a0 m5 a1 X Y Z V H7 a6 a9 b9 d4 H3 z1 f8 z2 f3 z3 v3;obtain⟨a2,a0,m5,a1,X,Y⟩:=HF.o;have a7:Hid (Xq w ok D2 f1 (gv k n s sl lo p1 (.slice (some ⟨b2,f7,none⟩) a5 cap)) p0 pc G):=O (a4.o.below H8.o);have d2:=O (d8.o.below H8.o);have d0:=O m5;have b7:=O a1;have b6:=O a0;have a8:=O a2;have e9:=O H8.o.size;have e3:=O (EQ X Y);clear HF a4 d8 e2 f9 m5 a1 a0 a2 H8 X Y;have d3:=O a8.o.cells;have b4:acc.length<=10000000:=by have:=d9.o;have:=g8.o trivial;omega
     have e5:=O fun _:True=>b4;clear b4;go_wp2_with (first
      | ((with_reducible refine cp 68 (.load 109 _) ?_);refine ac g3 g1 aj z (.tmp 14) z M K z d0 d3.o.1 ?_)
      | ((with_reducible refine cY (.store 109 _ _) ?_);refine af aj z (.tmp 3) (.tmp 68) z w.1.size K _ z z a7.o.f hl d3.o ?_;intro W9 k9 c9;have Q:=O (EQ k9 c9);clear k9 c9;have e8:=O (a7.o.Dc a3 a8.o Q.o.1 Q.o.2);have f5:=O (Q.o.2.grow d2.o (by omega));have d1:=O (Q.o.2.ex (fun c F=>by have:=F.1;have:=S.o;omega) b6.o);have f6:=O (Q.o.2.CV (by have:=e3.o;omega) b7.o);have e7:A.1.size<=W9.1.size:=(by rw[Q.o.2.size];exact e9.o);have HL:=O (hc (v:= .slice ga acc.length d5) d1.o g9.o S.o);have b5:w.1.size+5<=W9.1.size:=(by have:=S.o;omega);have f4:=O b5;have b8:=d1.o.cells.1;have h9:=bE #[I 0,I 0,.string ⟨#[]⟩,I 0,.bool false,I 0,.slice none 0 0] H (by rw[b8];rfl);clear Q a7 d2 b6 a8 d0 e7 b7 b5)
      | ((with_reducible refine cp 70 (.load 58 _) ?_);refine ac g4 g2 be z (.tmp 15) z N H z f6 b8 ?_)
      | (at_builtin;refine bg gC z (.tmp 69) (.tmp 71) 56 z i0 z0 _ g6 g5 h3 h6 z g7 (by decide) h7 (w.1.size+5) W9 _ (.slice ga acc.length d5) acc z f5 H x3 HL z z (e5.o trivial) f4.o ?_;intro gb i1 j1 e0 f2 i3)
      |fail)
     go_roundg (a5- (i+1));case measure=>omega
     case rel=>
      refine⟨i+1,acc++[x3],D3,K,by omega,z,?_,by have:=d9.o;simp;omega,e0,O (e8.DZ a3 f2),O ?_⟩
      .have hp:=h0 trivial;exact congrArg (Gr .i64) ((Gi _ (by omega)).trans (by omega))
      .rw[<-h4.o];simp
  .obtain rfl:i=a5:=by omega
   have l8:¬ (i:Int)< (i:Int):=by omega
   go_wp2;apply j9;refine wZ a3 HQ HG (O ?_);rw[HR.o,<-HD.o,<-HN.o,List.drop_length,DF.DI];simp
theorem AJ{p:Int×Int}{sl:Int}{lo:Bool}{x:Nm}(h:D.CZ s 1 100 p=(D0,x)):D.Ed p 2 s sl lo=(D0,(x.slot:Int),decide (x.kind=100)):=by unfold DF.Ed;rw[aD rfl,h]
theorem Av{p:Int×Int}{sl:Int}{lo:Bool}{x:Nm}(h:D.CZ s 2 2 p=(D0,x)):D.Ed p 3 s sl lo=(D0,(x.slot:Int),lo):=by unfold DF.Ed;rw[am (by decide),aD rfl,h]
theorem Az{p:Int×Int}{k:Int}{sl:Int}{lo:Bool}(g:¬k=2)(j:¬k=3):D.Ed p k s sl lo=(D,sl,lo):=by unfold DF.Ed;rw[am g,am j]
theorem tO(k n:Int)(s:ByteArray)(sl:Int)(lo:Bool)(V:Int)(args:List Ex)(p:Int×Int)(ok:Nat->Prop)(g4:args.length<=10000000)
  (IH:∀x∈args,∀D cs xs W,(∀c,ok c->c<W.1.size)->aG ok W D cs->ExL (fun _=>True) W xs x->Jq prog 118 #[.agg cs.toArray,.agg xs.toArray,.agg #[I p.1,I p.2]] W (xC ok W (DF.ex p x D)))
  (D:DF)(cs ec:List Fr)(w:Fk)(A:∀c,ok c->c<w.1.size)(hD:aG ok w D cs)(hX:ExL (fun _=>True) w ec (.mk k n s sl lo V args)):Jq prog 118 #[.agg cs.toArray,.agg ec.toArray,.agg #[I p.1,I p.2]] w (xC ok w (DF.ex p (.mk k n s sl lo V args) D)):=by
 obtain⟨du,d4,d5⟩:=cd;obtain⟨h9,h7,h8⟩:=hY;obtain⟨h6,i1,i0⟩:=en;obtain⟨i9,z9,e1,d8,d9⟩:=em;obtain⟨i8,z8,g7,g8,g9⟩:=mm;obtain⟨i4,z4,f5,g3,f9⟩:=jI;obtain⟨C,pc⟩:=p;unfold ExL at hX;obtain⟨a,cap,g1,g5,f6⟩:=hX;have g2:dT w a args:=f6;obtain⟨R,hR⟩:∃R,DF.ex (C,pc) (.mk k n s sl lo V args) D=R:=⟨_,z⟩;rw[hR];rw[DF.ex]at hR;have HR:=O hR.symm;obtain⟨E,hE⟩:∃E,gv k n s sl lo V (.slice a args.length cap)=E:=⟨_,z⟩;have h3:ec=E:=by rw[<-hE,g1];rfl
 subst h3;have h0:=O hE;have e2:=O g5;have HX:=O g2;have HD:=O hD;have e6:=O IH;have f0:=O fun _:True=>g4;have hl:=hD.cells.1;clear hR g1 g5 f6 g2 hD hE IH g4;go_enter func118,ntmps118;refine wk fun KK a4=>?_;go_wp2_with (first
  | ((with_reducible refine cp 3 (.box 109 _) ?_);refine aJ z (.tmp 0) z cs z w.1.size z ?_;intro W1 k1 b1 f1;have K1:=O k1;have B1:=O b1;clear k1 b1)
  | ((with_reducible refine cp 4 (.box 58 _) ?_);refine aJ z (.tmp 1) z ec z (w.1.size+1) f1 ?_;intro W2 k2 b2 s2;have K2:=O k2;have B2:=O b2;clear k2 b2)
  | ((with_reducible refine cp 5 (.box 32 _) ?_);refine aJ z (.tmp 2) z [I C,I pc] z (w.1.size+1+1) s2 ?_;intro W3 k3 b3 s3;have K3:=O k3;have B3:=O b3;clear k3 b3)
  | ((with_reducible refine cp 6 (.alloc 109) ?_);refine ag e1 d8 d9 z z (w.1.size+1+1+1) s3 ?_;intro W4 k4 b4 s4;have K4:=O k4;have B4:=O b4;clear k4 b4)
  | ((with_reducible refine cp 7 (.alloc 58) ?_);refine ag g7 g8 g9 z z (w.1.size+1+1+1+1) s4 ?_;intro N k5 b5 s5;have K5:=O k5;have B5:=O b5;clear k5 b5)
  |fail)
 refine a4.o _ _ ?_;clear a4 KK;have e9:=B1.o.trans (B2.o.mono B1.o.size);have e5:=e9.trans (B3.o.mono e9.size);have e7:=e5.trans (B4.o.mono e5.size);have e8:=e7.trans (B5.o.mono e7.size);have j:Hid (Xq w ok D cs ec C pc N):=O ⟨e8,(((K1.o.below B2.o).below B3.o).below B4.o).below B5.o,((K2.o.below B3.o).below B4.o).below B5.o,(K3.o.below B4.o).below B5.o,K4.o.below B5.o,K5.o,HD.o.below e8⟩;clear B1 B2 B3 B4 B5 K1 K2 K3 K4 K5 e9 e5 e7 e8 f1 s2 s3 s4 s5 HD;rw[<-h0.o]at j;have c0:N.cell? ⟨w.1.size+1,0,none⟩=some (I k):=by rw[j.o.e.cell];rfl
 refine wk fun KK a4=>?_;by_cases f7:k=2
 .subst f7;have c2:N.cell? ⟨w.1.size+1,2,none⟩=some (.string s):=by rw[j.o.e.cell];rfl
  have p0:N.cell? ⟨w.1.size+1+1,0,none⟩=some (I C):=by rw[j.o.p.cell];rfl
  have p1:N.cell? ⟨w.1.size+1+1,1,none⟩=some (I pc):=by rw[j.o.p.cell];rfl
  obtain⟨⟨Y,x⟩,i2⟩:∃q,D.CZ s 1 100 (C,pc)=q:=⟨_,z⟩;have a0:=eV D s 1 100 (C,pc) ok cs N (fun c hc=>by have:=A c hc;have:=j.o.y.lt;omega) j.o.d;rw[i2]at a0;have HN:=O (AJ (sl:=sl) (lo:=lo) i2);clear i2;go_wp2_with (first| ((with_reducible refine gU _ (.load 109 _) ?_);refine ac d4 d5 aj z (.tmp 3) z w.1.size cs z (O j.o.f) hl ?_)|fail);refine a0.mono ?_;clear a0;rintro e W6 ⟨⟨U,rfl,hd⟩,g⟩;have a3:=O (j.o.below g);have a2:=O hd.cells;have c8:=O hd;clear g hd j c0 c2 p0 p1;have a8:w.1.size+5<=W6.1.size:=by have:=a3.o.y.lt;omega
  have e0:=O a8;clear a8;go_wp2_with (first
   | ((with_reducible refine cp 8 (.alloc 109) ?_);obtain⟨M,a6⟩:∃b,W6.1.size=b:=⟨_,z⟩;refine ag e1 d8 d9 z z M a6 ?_;intro W7 k7 g s7;have K7:=O k7;have a9:=O (a3.o.below g);have b8:=O (c8.o.below g);have F:=O (show w.1.size+5<=M by have:=e0.o;omega);clear k7 g a3 c8 a6)
   | ((with_reducible refine cp 9 (.alloc 114) ?_);obtain⟨J,d2⟩:∃b,W7.1.size=b:=⟨_,z⟩;refine ag f5 g3 f9 z z J d2 ?_;intro W8 k8 g s8;have Z:=O (EQ (K7.o.below g) k8);have d0:=O (a9.o.below g);have b7:=O (b8.o.below g);have G:=O (show M+1=J by omega);clear k8 g a9 b8 K7 d2)
   | ((with_reducible refine cY (.store 109 (.tmp 8) _) ?_);refine af aj z (.tmp 8) (.tmp 26) z M U _ z z Z.o.1 z a2.o ?_;intro W9 k9 Q;have K9:=O (EQ k9 (Q.CV (by have:=G.o;omega) Z.o.2));have d1:=O (d0.o.ch A F.o Q);have b6:=O (Q.df (fun e=>by have:=A _ e;have:=F.o;omega) b7.o);clear k9 Q d0 b7 Z)
   | ((with_reducible refine cY (.store 114 _ _) ?_);refine af cN z (.tmp 9) (.tmp 27) z J x.cells _ z z K9.o.2 z (gj x) ?_;intro h5 a5 S;have a1:=O (EQ (S.CV (by have:=G.o;omega) K9.o.1) a5);have c9:=O (d1.o.ch A (by have:=F.o;have:=G.o;omega) S);have a7:=O (S.df (fun e=>by have:=A _ e;have:=F.o;have:=G.o;omega) b6.o);clear a5 S d1 b6 K9)
   | ((with_reducible refine cp 28 (.load 109 _) ?_);refine ac d4 d5 aj z (.tmp 8) z M U z (O a1.o.1) a2.o.1 ?_)
   | ((with_reducible refine cY (.store 109 (.tmp 3) _) ?_);refine af aj z (.tmp 3) (.tmp 28) z w.1.size U _ z z c9.o.f hl a2.o ?_;intro K d3 X;have b9:=O (X.CV (by have:=F.o;have:=G.o;omega) a1.o.2);have H:=O (c9.o.Dc A a7.o d3 X);clear d3 X c9 a7 a1;have n1:K.cell? ⟨J,1,none⟩=some (I x.kind):=(by rw[b9.o.cell];rfl);have n2:K.cell? ⟨J,2,none⟩=some (I x.slot):=(by rw[b9.o.cell];rfl);have e3:K.cell? ⟨w.1.size+1,3,none⟩=some (I sl):=(by rw[H.o.e.cell];rfl);have e4:K.cell? ⟨w.1.size+1,4,none⟩=some (.bool lo):=(by rw[H.o.e.cell];rfl);have f3:=H.o.e.frozen 3;have f4:=H.o.e.frozen 4;have g6:=O (show J≠w.1.size+1 by have:=F.o;have:=G.o;omega);clear G F s7 s8)
   |fail)
  have f2:((x.kind:Int)==100)=decide (x.kind=100):=by rw[Bool.eq_iff_iff];simp;omega
  have hq:Xq w ok Y U (gv 2 n s (x.slot:Int) (decide (x.kind=100)) V (.slice a args.length cap)) C pc ((K.setCell ⟨w.1.size+1,3,none⟩ (I x.slot)).setCell ⟨w.1.size+1,4,none⟩ (.bool ((x.kind:Int)==100))).drew:=by rw[f2];have h1:=H.o.Em A (H.o.e.set1 3 (I x.slot)) (Ch.one 3 _ _);have h2:=h1.Em A (h1.e.set1 4 (.bool (decide (x.kind=100)))) (Ch.one 4 _ _);exact h2.below (FB _ _).drew
  have d7:=O hq;have d6:Hid (R=((DF.DI (C,pc) args Y).1,.mk 2 n s (x.slot:Int) (decide (x.kind=100)) V (DF.DI (C,pc) args Y).2)):=O (by rw[HR.o,HN.o]);clear hq f2;go_region;all_goals
   generalize (Gc _ _ _).drew=h4 at *;go_wp2_with fail;refine a4.o _ _ ?_;exact kG A e2.o (f0.o trivial) HX e6 d7 d6
 by_cases f8:k=3
 .subst f8;have c2:N.cell? ⟨w.1.size+1,2,none⟩=some (.string s):=by rw[j.o.e.cell];rfl
  have p0:N.cell? ⟨w.1.size+1+1,0,none⟩=some (I C):=by rw[j.o.p.cell];rfl
  have p1:N.cell? ⟨w.1.size+1+1,1,none⟩=some (I pc):=by rw[j.o.p.cell];rfl
  obtain⟨⟨Y,x⟩,i2⟩:∃q,D.CZ s 2 2 (C,pc)=q:=⟨_,z⟩;have a0:=eV D s 2 2 (C,pc) ok cs N (fun c hc=>by have:=A c hc;have:=j.o.y.lt;omega) j.o.d;rw[i2]at a0;have HN:=O (Av (sl:=sl) (lo:=lo) i2);clear i2;go_wp2_with (first| ((with_reducible refine gU _ (.load 109 _) ?_);refine ac d4 d5 aj z (.tmp 3) z w.1.size cs z (O j.o.f) hl ?_)|fail);refine a0.mono ?_;clear a0;rintro e W6 ⟨⟨U,rfl,hd⟩,g⟩;have a3:=O (j.o.below g);have a2:=O hd.cells;have c8:=O hd;clear g hd j c0 c2 p0 p1;have a8:w.1.size+5<=W6.1.size:=by have:=a3.o.y.lt;omega
  have e0:=O a8;clear a8;go_wp2_with (first
   | ((with_reducible refine cp 10 (.alloc 109) ?_);obtain⟨M,a6⟩:∃b,W6.1.size=b:=⟨_,z⟩;refine ag e1 d8 d9 z z M a6 ?_;intro W7 k7 g s7;have K7:=O k7;have a9:=O (a3.o.below g);have b8:=O (c8.o.below g);have F:=O (show w.1.size+5<=M by have:=e0.o;omega);clear k7 g a3 c8 a6)
   | ((with_reducible refine cp 11 (.alloc 114) ?_);obtain⟨J,d2⟩:∃b,W7.1.size=b:=⟨_,z⟩;refine ag f5 g3 f9 z z J d2 ?_;intro W8 k8 g s8;have Z:=O (EQ (K7.o.below g) k8);have d0:=O (a9.o.below g);have b7:=O (b8.o.below g);have G:=O (show M+1=J by omega);clear k8 g a9 b8 K7 d2)
   | ((with_reducible refine cY (.store 109 (.tmp 10) _) ?_);refine af aj z (.tmp 10) (.tmp 44) z M U _ z z Z.o.1 z a2.o ?_;intro W9 k9 Q;have K9:=O (EQ k9 (Q.CV (by have:=G.o;omega) Z.o.2));have d1:=O (d0.o.ch A F.o Q);have b6:=O (Q.df (fun e=>by have:=A _ e;have:=F.o;omega) b7.o);clear k9 Q d0 b7 Z)
   | ((with_reducible refine cY (.store 114 _ _) ?_);refine af cN z (.tmp 11) (.tmp 45) z J x.cells _ z z K9.o.2 z (gj x) ?_;intro h5 a5 S;have a1:=O (EQ (S.CV (by have:=G.o;omega) K9.o.1) a5);have c9:=O (d1.o.ch A (by have:=F.o;have:=G.o;omega) S);have a7:=O (S.df (fun e=>by have:=A _ e;have:=F.o;have:=G.o;omega) b6.o);clear a5 S d1 b6 K9)
   | ((with_reducible refine cp 46 (.load 109 _) ?_);refine ac d4 d5 aj z (.tmp 10) z M U z (O a1.o.1) a2.o.1 ?_)
   | ((with_reducible refine cY (.store 109 (.tmp 3) _) ?_);refine af aj z (.tmp 3) (.tmp 46) z w.1.size U _ z z c9.o.f hl a2.o ?_;intro K d3 X;have b9:=O (X.CV (by have:=F.o;have:=G.o;omega) a1.o.2);have H:=O (c9.o.Dc A a7.o d3 X);clear d3 X c9 a7 a1;have n1:K.cell? ⟨J,1,none⟩=some (I x.kind):=(by rw[b9.o.cell];rfl);have n2:K.cell? ⟨J,2,none⟩=some (I x.slot):=(by rw[b9.o.cell];rfl);have e3:K.cell? ⟨w.1.size+1,3,none⟩=some (I sl):=(by rw[H.o.e.cell];rfl);have e4:K.cell? ⟨w.1.size+1,4,none⟩=some (.bool lo):=(by rw[H.o.e.cell];rfl);have f3:=H.o.e.frozen 3;have f4:=H.o.e.frozen 4;have g6:=O (show J≠w.1.size+1 by have:=F.o;have:=G.o;omega);clear G F s7 s8)
   |fail)
  have hq:Xq w ok Y U (gv 3 n s (x.slot:Int) lo V (.slice a args.length cap)) C pc (K.setCell ⟨w.1.size+1,3,none⟩ (.int .i64 (x.slot:Int))):=H.o.Em A (H.o.e.set1 3 (I x.slot)) (Ch.one 3 _ _);have d7:=O hq;have d6:Hid (R=((DF.DI (C,pc) args Y).1,.mk 3 n s (x.slot:Int) lo V (DF.DI (C,pc) args Y).2)):=O (by rw[HR.o,HN.o]);clear hq;generalize Gc _ _ _=h4 at *;refine a4.o _ _ ?_;exact kG A e2 (f0 trivial) HX e6 d7 d6
 .go_wp2;refine a4.o _ _ ?_;exact kG A e2 (f0 trivial) HX e6 j (O (by rw[HR.o,Az f7 f8]))
mutual
def Ex.sm:Ex->Prop
 | .mk _ _ _ _ _ _ args=>args.length<=10000000/\Ex.DO args
def Ex.DO:List Ex->Prop
 | []=>True
 |x::r=>x.sm/\Ex.DO r
end
mutual
theorem mI {nm:ByteArray->Bool}:∀ (e:Ex) {d:Nat},de nm e d=true->e.sm
 | .mk k n s sl lo o args,d,h=>by
  rw[db]at h
  simp only[FG,decide_eq_true_eq]at h
  obtain⟨-,-,-,-,-,h1,h2⟩:=h
  unfold Ex.sm
  refine⟨?_,od args h2⟩
  rw[h1]
  unfold dR
  split
  .decide
  .split<;>decide
theorem od {nm:ByteArray->Bool}:∀ (l:List Ex) {d:Nat},di nm l d=true->Ex.DO l
 | [],_,_=>by unfold Ex.DO;trivial
 |x::r,d,h=>by
  unfold di at h
  rw[List.all_cons,FG]at h
  unfold Ex.DO
  exact⟨mI x h.1,od r h.2⟩
end
theorem ul(h:iB e=true):e.sm:=by
 let ⟨k,n,s,sl,lo,o,args⟩:=e
 unfold iB at h;simp only[FG,decide_eq_true_eq]at h;have:=Hf.1 h.2.2.2.2;subst this;unfold Ex.sm Ex.DO;exact⟨by decide,trivial⟩
mutual
theorem mF (p:Int×Int):∀ (e:Ex),e.sm->∀ (ok:Nat->Prop) (D:DF) (cs ec:List Fr) (w:Fk),(∀c,ok c->c<w.1.size)->aG ok w D cs->ExL (fun _=>True) w ec e->Jq Tryz.prog 118 #[.agg cs.toArray,.agg ec.toArray,.agg #[.int .i64 p.1,.int .i64 p.2]] w (xC ok w (DF.ex p e D))
 | .mk k n s sl lo op args,h,ok,D,cs,ec,w,hok,hD,hX=>by
  unfold Ex.sm at h
  exact tO k n s sl lo op args p ok h.1 (fun x hx D cs xs W h1 h2 h3=>nO p args h.2 x hx ok D cs xs W h1 h2 h3) D cs ec w hok hD hX
theorem nO (p:Int×Int):∀ (l:List Ex),Ex.DO l->∀x∈l,∀ (ok:Nat->Prop) (D:DF) (cs ec:List Fr) (w:Fk),(∀c,ok c->c<w.1.size)->aG ok w D cs->ExL (fun _=>True) w ec x->Jq Tryz.prog 118 #[.agg cs.toArray,.agg ec.toArray,.agg #[.int .i64 p.1,.int .i64 p.2]] w (xC ok w (DF.ex p x D))
 | [],_,x,hx,_,_,_,_,_,_,_,_=>by cases hx
 |y::r,h,x,hx,ok,D,cs,ec,w,hok,hD,hX=>by
  unfold Ex.DO at h
  by_cases e:x=y
  .rw[e]at hX ⊢
   exact mF p y h.1 ok D cs ec w hok hD hX
  .exact nO p r h.2 x ((FQ.1 hx).resolve_left e) ok D cs ec w hok hD hX
end
def gz(x:Nm):Nm:=⟨x.text,if x.kind=0 then 100 else x.kind,x.slot⟩
structure hq (D:DF) (P:Pg) (L:List Nm) (n loc mo:Nat):Prop where
 CR:D.CR=0
 names:D.names=L.map gz
 prog:D.P={P with stmts:=n}
 locals:D.locals=loc
 CY:D.CY=mo
 nd:(L.map (·.text)).Nodup
 kd:∀x∈L,x.kind<=6
def ir(D:DF)(e:fT):Prop:=e.2≠0/\D.CR=e.2/\D.pos=e.1
def lj(D D':DF):Prop:=D'.CR=D.CR/\D'.pos=D.pos
theorem lj.bad{D':DF}{e:fT}(h:lj D D')(g:ir D e):ir D' e:=⟨g.1,h.1.trans g.2.1,h.2.trans g.2.2⟩
theorem eS(h:D.CR≠0)(e:Int)(p:Int×Int):D.DA e p=D:=am h
theorem dD(h:D.CR=0){e:Int}(g:e≠0)(p:Int×Int):ir (D.DA e p) (p,e):=by unfold DF.DA;rw[aD h];exact⟨g,z,z⟩
theorem dE(h:D.CR≠0)(s:ByteArray)(a b:Nat)(p:Int×Int):(D.CZ s a b p).1=D:=by
 unfold DF.CZ;split
 .exact eS h _ _
 .split
  .exact eS h _ _
  .rfl
theorem sK(h:D.CR≠0)(p:Int×Int)(k:Int)(s:ByteArray)(sl:Int)(lo:Bool):(D.Ed p k s sl lo).1=D:=by
 unfold DF.Ed;split
 .exact dE h _ _ _ _
 .split
  .exact dE h _ _ _ _
  .rfl
mutual
theorem jL (p:Int×Int) {D:DF} (h:D.CR≠0):∀ (e:Ex),(DF.ex p e D).1=D
 | .mk k n s sl lo o args=>by
  rw[DF.ex]
  show (DF.DI p args _).1=D
  rw[sK h]
  exact gJ p h args
theorem gJ (p:Int×Int) {D:DF} (h:D.CR≠0):∀ (l:List Ex),(DF.DI p l D).1=D
 | []=>by rw[DF.DI]
 |x::l=>by
  rw[DF.DI]
  show (DF.DI p l _).1=D
  rw[jL p h x]
  exact gJ p h l
end
theorem sV(h:D.CR≠0)(p:Int×Int)(k:Int)(s:ByteArray)(sl:Int)(lo:Bool):(D.stW p k s sl lo).1=D:=by
 unfold DF.stW;split
 .exact dE h _ _ _ _
 .rfl
theorem pa(h:D.CR≠0)(p:Int×Int)(s:ByteArray):(D.DG p s).DD p=D:=by
 have g:D.DG p s=D:=by
  unfold DF.DG;split
  .exact eS h _ _
  .rfl
 rw[g];unfold DF.DD;split
 .exact eS h _ _
 .rfl
theorem kP(h:D.CR≠0)(p:Int×Int)(k:Int)(s t:ByteArray)(sl ot:Int)(lo:Bool):lj D (D.DR p k s t sl ot lo).1:=by
 unfold DF.DR;rw[sV h];split
 .rw[pa h];exact⟨z,z⟩
 .split
  .rw[dE h];exact⟨z,z⟩
  .split
   .rw[dE h];exact⟨z,z⟩
   .exact⟨z,z⟩
theorem ep(h:D.CR≠0)(l:List St):(DF.Dp l D).1=D:=by
 cases l with
 |nil=>rw[DF.Dp]
 |cons s r=>rw[DF.Dp,aD h]
theorem nL{L:List Nm}:∀ {n:Nat},pp L s n=none->∀j,j<n->(L.getD j hA).text≠s
 |n+1,h,j,hj=>by
  rw[pp]at h
  by_cases g:(L.getD n hA).text=s
  .rw[aD g]at h
   cases h
  .rw[am g]at h
   by_cases w:j=n
   .rw[w]
    exact g
   .exact nL h j (by omega)
theorem kg{L:List Nm}:∀ {n i:Nat},pp L s n=some i->i<n/\(L.getD i hA).text=s
 |0,_,h=>by simp[pp]at h
 |n+1,i,h=>by
  rw[pp]at h
  by_cases g:(L.getD n hA).text=s
  .rw[aD g]at h
   cases h
   exact⟨by omega,g⟩
  .rw[am g]at h
   have:=kg h
   exact⟨by omega,this.2⟩
theorem mq(L:List Nm)(g:i<L.length):(L.map gz).getD i hA=gz (L[i]):=by simp[FD,g]
theorem jy{L:List Nm}(A:D.names=L.map gz)(s:ByteArray)(h:ex L s=none):D.at s=none:=by
 unfold DF.at;rw[A];cases w:pp (L.map gz) s (L.map gz).length with
 |none=>rfl
 |some i=>
  let ⟨C,j⟩:=kg w
  have g:i<L.length:=by simpa using C
  rw[mq L g]at j;have:=List.find?_eq_none.1 h L[i] (Gy g);simp at this;exact absurd j this
theorem jN{L:List Nm}(H:D.names=L.map gz)(hd:(L.map (·.text)).Nodup){x:Nm}(h:ex L s=some x):∃i,D.at s=some i/\D.names.getD i hA=gz x:=by
 unfold DF.at;rw[H];have A:x.text=s:=by simpa using He h
 let ⟨j,w,g⟩:=List.getElem_of_mem (Gl h)
 cases C:pp (L.map gz) s (L.map gz).length with
 |none=>
  exfalso;apply nL C j (by simpa using w);rw[mq L w,g];exact A
 |some i=>
  refine⟨i,z,?_⟩;let ⟨K,F⟩:=kg C
  have E:i<L.length:=by simpa using K
  rw[mq L E]at F ⊢;have J:L[i].text=L[j].text:=by rw[g,A];exact F
  have G:i=j:=by have:=(List.getElem_inj (xs:=L.map Nm.text) (i:=i) (j:=j) (h₀:=by simpa using E) (h₁:=by simpa using w) hd).1 (by simpa using J);exact this
  subst G;rw[g]
theorem qi{L:List Nm}{x:Nm}(h:ex L s=some x):x∈L:=Gl h
theorem gQ{L:List Nm}(A:D.CR=0)(C:D.names=L.map gz)(hd:(L.map (·.text)).Nodup)(G:∀x∈L,x.kind<=6)(s:ByteArray)(kind:Nat)(M:1<=kind)(K:kind<=6)(loc:Bool)(p:Int×Int):
  match hs L s kind loc p with
  | .error e=>ir (D.CZ s kind (if loc then 100 else kind) p).1 e
  | .ok x=>D.CZ s kind (if loc then 100 else kind) p=(D,gz x)/\x.kind<=6:=by
 unfold hs DF.CZ
 cases j:ex L s with
 |none=>
  rw[jy C s j]
  exact dD A (by decide) p
 |some x=>
  let ⟨i,J,E⟩:=jN C hd j
  have F:=G x (qi j)
  rw[J]
  simp only[E]
  by_cases g:x.kind≠kind/\¬ (loc=true/\x.kind=0)
  .rw[aD g]
   have w:(gz x).kind≠kind/\(gz x).kind≠(if loc then 100 else kind):=by
    let ⟨c1,c2⟩:=g
    unfold gz
    cases loc<;>by_cases H:x.kind=0<;>simp_all<;>omega
   rw[aD w]
   exact dD A (by decide) p
  .rw[am g]
   have w:¬ ((gz x).kind≠kind/\(gz x).kind≠(if loc then 100 else kind)):=by
    unfold gz
    cases loc<;>by_cases H:x.kind=0<;>simp_all<;>omega
   rw[am w]
   exact⟨z,F⟩
theorem oQ{x:Nm}(h:x.kind<=6):decide ((gz x).kind=100)=decide (x.kind=0):=by
 unfold gz;by_cases g:x.kind=0
 .simp[g]
 .simp[g];omega
mutual
theorem oC {L:List Nm} (p:Int×Int) {D:DF} (hf:D.CR=0) (hn:D.names=L.map gz) (hd:(L.map (·.text)).Nodup) (hk:∀x∈L,x.kind<=6):∀ (e:Ex),match hM L p e with
  | .error b=>ir (DF.ex p e D).1 b
  | .ok e'=>DF.ex p e D=(D,e')
 | .mk k n s sl lo o args=>by
  rw[DF.ex,hM]
  by_cases h2:k=2
  .subst h2
   have hw:=gQ hf hn hd hk s 1 (by decide) (by decide) true p
   simp only[if_pos]at hw ⊢
   cases hx:hs L s 1 true p with
   |error e=>
    rw[hx]at hw
    simp only[Jo]
    have h1:(D.Ed p 2 s sl lo).1=(D.CZ s 1 100 p).1:=by unfold DF.Ed;rw[if_pos rfl]
    rw[h1]
    have hw':ir (D.CZ s 1 100 p).1 e:=hw
    rw[gJ p (by rw[hw'.2.1];exact hw'.1) args]
    exact hw'
   |ok x=>
    rw[hx]at hw
    simp only[Jo]
    have hw':D.CZ s 1 100 p=(D,gz x):=hw.1
    have h1:D.Ed p 2 s sl lo=(D,(x.slot:Int),decide (x.kind=0)):=by
     unfold DF.Ed
     rw[if_pos rfl,hw']
     show (D,((gz x).slot:Int),decide ((gz x).kind=100))=_
     rw[oQ hw.2]
     rfl
    rw[h1]
    have hl:=jD p hf hn hd hk args
    cases hy:fN L p args with
    |error e=>
     rw[hy]at hl
     exact hl
    |ok l=>
     rw[hy]at hl
     show ((DF.DI p args D).1,_)=_
     rw[show DF.DI p args D=(D,l) from hl]
  .by_cases h3:k=3
   .subst h3
    have hw:=gQ hf hn hd hk s 2 (by decide) (by decide) false p
    rw[if_neg (by decide:¬ (3:Int)=2),if_pos rfl]
    cases hx:hs L s 2 false p with
    |error e=>
     rw[hx]at hw
     simp only[Jo]
     have h1:(D.Ed p 3 s sl lo).1=(D.CZ s 2 2 p).1:=by unfold DF.Ed;rw[if_neg (by decide),if_pos rfl]
     rw[h1]
     have hw':ir (D.CZ s 2 2 p).1 e:=hw
     rw[gJ p (by rw[hw'.2.1];exact hw'.1) args]
     exact hw'
    |ok x=>
     rw[hx]at hw
     simp only[Jo]
     have hw':D.CZ s 2 2 p=(D,gz x):=hw.1
     have h1:D.Ed p 3 s sl lo=(D,(x.slot:Int),lo):=by
      unfold DF.Ed
      rw[if_neg (by decide),if_pos rfl,hw']
      rfl
     rw[h1]
     have hl:=jD p hf hn hd hk args
     cases hy:fN L p args with
     |error e=>
      rw[hy]at hl
      exact hl
     |ok l=>
      rw[hy]at hl
      show ((DF.DI p args D).1,_)=_
      rw[show DF.DI p args D=(D,l) from hl]
   .rw[if_neg h2,if_neg h3]
    have h1:D.Ed p k s sl lo=(D,sl,lo):=by
     unfold DF.Ed
     rw[if_neg h2,if_neg h3]
    rw[h1]
    have hl:=jD p hf hn hd hk args
    cases hy:fN L p args with
    |error e=>
     rw[hy]at hl
     exact hl
    |ok l=>
     rw[hy]at hl
     show ((DF.DI p args D).1,_)=_
     rw[show DF.DI p args D=(D,l) from hl]
theorem jD {L:List Nm} (p:Int×Int) {D:DF} (hf:D.CR=0) (hn:D.names=L.map gz) (hd:(L.map (·.text)).Nodup) (hk:∀x∈L,x.kind<=6):∀ (l:List Ex),match fN L p l with
  | .error b=>ir (DF.DI p l D).1 b
  | .ok l'=>DF.DI p l D=(D,l')
 | []=>by rw[fN,DF.DI]
 |x::l=>by
  rw[DF.DI,fN]
  have hx:=oC p hf hn hd hk x
  cases hy:hM L p x with
  |error e=>
   rw[hy]at hx
   have hx':ir (DF.ex p x D).1 e:=hx
   show ir (DF.DI p l (DF.ex p x D).1).1 e
   rw[gJ p (by rw[hx'.2.1];exact hx'.1) l]
   exact hx'
  |ok y=>
   rw[hy]at hx
   have hx':DF.ex p x D=(D,y):=hx
   rw[hx']
   have hl:=jD p hf hn hd hk l
   cases hz:fN L p l with
   |error e=>
    rw[hz]at hl
    exact hl
   |ok z=>
    rw[hz]at hl
    show ((DF.DI p l D).1,_)=_
    rw[show DF.DI p l D=(D,z) from hl]
end
structure hz (D:DF):Prop where
 loc:D.locals<=33
 CY:D.CY<=33
 names:D.names.length<=64+D.locals
 ok:D.CR=0->D.locals<=32/\D.P.stmts<=512
structure jS (D D':DF):Prop where
 P:D'.P=D.P
 names:D'.names=D.names
 loc:D'.locals=D.locals
 CY:D'.CY=D.CY
 fl:D'.CR=0->D.CR=0
theorem jS.refl(D:DF):jS D D:=⟨z,z,z,z,id⟩
theorem jS.trans{B C:DF}(h:jS D B)(g:jS B C):jS D C:=⟨g.P.trans h.P,g.names.trans h.names,g.loc.trans h.loc,g.CY.trans h.CY,fun e=>h.fl (g.fl e)⟩
theorem hz.EK{D':DF}(h:hz D)(g:jS D D'):hz D':=⟨by rw[g.loc];exact h.loc,by rw[g.CY];exact h.CY,by rw[g.names,g.loc];exact h.names,fun e=>by rw[g.loc,g.P];exact h.ok (g.fl e)⟩
theorem gb(D:DF){e:Int}(g:e≠0)(p:Int×Int):jS D (D.DA e p):=by
 unfold DF.DA;split
 .exact⟨z,z,z,z,fun h=>absurd h g⟩
 .exact jS.refl D
theorem dX(D:DF)(s:ByteArray)(a b:Nat)(p:Int×Int):jS D (D.CZ s a b p).1:=by
 unfold DF.CZ;split
 .exact gb D (by decide) p
 .split
  .exact gb D (by decide) p
  .exact jS.refl D
theorem wv(D:DF)(p:Int×Int)(k:Int)(s:ByteArray)(sl:Int)(lo:Bool):jS D (D.Ed p k s sl lo).1:=by
 unfold DF.Ed;split
 .exact dX _ _ _ _ _
 .split
  .exact dX _ _ _ _ _
  .exact jS.refl D
mutual
theorem go (p:Int×Int):∀ (e:Ex) (D:DF),jS D (DF.ex p e D).1
 | .mk k n s sl lo o args,D=>by
  rw[DF.ex]
  exact(wv D p k s sl lo).trans (qw p args _)
theorem qw (p:Int×Int):∀ (l:List Ex) (D:DF),jS D (DF.DI p l D).1
 | [],D=>by rw[DF.DI];exact jS.refl D
 |x::l,D=>by
  rw[DF.DI]
  exact(go p x D).trans (qw p l _)
end
theorem mx(D:DF)(p:Int×Int)(k:Int)(s:ByteArray)(sl:Int)(lo:Bool):jS D (D.stW p k s sl lo).1:=by
 unfold DF.stW;split
 .exact dX _ _ _ _ _
 .exact jS.refl D
theorem lf(D:DF)(p:Int×Int)(s:ByteArray):jS D (D.DG p s):=by
 unfold DF.DG;split
 .exact gb D (by decide) p
 .exact jS.refl D
theorem ko(D:DF)(p:Int×Int):jS D (D.DD p)/\((D.DD p).CR=0->D.locals<32):=by
 unfold DF.DD;split
 .refine⟨gb D (by decide) p,fun h=>?_⟩;unfold DF.DA at h;split at h
  .have g:=h;cases g
  .exact absurd h (by assumption)
 .exact⟨jS.refl D,fun _=>by omega⟩
def DF.stM(D:DF)(p:Int×Int)(k:Int)(s t:ByteArray)(sl ot:Int)(lo:Bool):DF×Int×Int×Bool:=
 if k=1 then ((((D.DG p s).DD p).Ez s),(((D.DG p s).DD p).locals:Int),ot,true)
 else if k=8 then ((D.CZ t 3 3 p).1,sl,((D.CZ t 3 3 p).2.slot:Int),lo)
 else if k=12 then ((D.CZ t 1 100 p).1,sl,((D.CZ t 1 100 p).2.slot:Int),decide ((D.CZ t 1 100 p).2.kind=100))
 else (D,sl,ot,lo)
theorem oM(D:DF)(p:Int×Int)(k:Int)(s t:ByteArray)(sl ot:Int)(lo:Bool):D.DR p k s t sl ot lo=(D.stW p k s sl lo).1.stM p k s t (D.stW p k s sl lo).2.1 ot (D.stW p k s sl lo).2.2:=rfl
theorem jJ(h:hz D)(F:D.locals<=32)(p:Int×Int)(k:Int)(s t:ByteArray)(sl ot:Int)(lo:Bool):hz (D.stM p k s t sl ot lo).1:=by
 unfold DF.stM;split
 .have w:=lf D p s;have A:=ko (D.DG p s) p;have g:=w.trans A.1;have j:=h.EK g;refine⟨?_,?_,?_,fun e=>?_⟩
  .show ((D.DG p s).DD p).locals+1<=33;rw[g.loc];omega
  .show max ((D.DG p s).DD p).CY (((D.DG p s).DD p).locals+1)<=33;have:=j.CY;rw[g.loc];omega
  .show (((D.DG p s).DD p).names++_).length<=64+(((D.DG p s).DD p).locals+1);have:=j.names;simp;omega
  .have e':=e;have C:=A.2 e';have E:=j.ok e';refine⟨?_,E.2⟩;show ((D.DG p s).DD p).locals+1<=32;rw[g.loc];rw[w.loc]at C;omega
 .split
  .exact h.EK (dX _ _ _ _ _)
  .split
   .exact h.EK (dX _ _ _ _ _)
   .exact h
theorem pM(h:hz D)(g:¬512<=D.P.stmts):hz D.inc:=⟨h.loc,h.CY,h.names,fun e=>⟨(h.ok e).1,by show D.P.stmts+1<=512;omega⟩⟩
mutual
theorem th:∀ (s:St) {D:DF},hz D->D.CR=0->hz (DF.st s D).1
 | .mk k l c s t x y body els id sl ot lo,D,h,h0=>by
  rw[DF.st]
  split
  .exact h.EK (gb D (by decide) _)
  .rename_i h5
   have h1:=pM h h5
   have hl:D.inc.locals<=32:=(h.ok h0).1
   have hy:=go (l,c) y D.inc
   have hx:=hy.trans (go (l,c) x _)
   have hw:=hx.trans (mx _ (l,c) k s sl lo)
   have h2:=h1.EK hw
   have h3:=jJ h2 (by rw[hw.loc];exact hl) (l,c) k s t ((DF.ex (l,c) x (DF.ex (l,c) y D.inc).1).1.stW (l,c) k s sl lo).2.1 ot ((DF.ex (l,c) x (DF.ex (l,c) y D.inc).1).1.stW (l,c) k s sl lo).2.2
   rw[<-oM]at h3
   have h4:=jF body h3
   exact jF els h4
theorem jF:∀ (r:List St) {D:DF},hz D->hz ((DF.Dp r D).1.back D)
 | [],D,h=>by rw[DF.Dp];exact h
 |s::r,D,h=>by
  rw[DF.Dp]
  split
  .exact h
  .rename_i h0
   have h0':D.CR=0:=by simpa using h0
   have h1:=th s h h0'
   have h2:=jF r h1
   exact⟨h.loc,h2.CY,h.names,fun e=>⟨(h.ok h0').1,(h2.ok e).2⟩⟩
end
theorem qz(l:List St)(h:hz D):hz (DF.CV l D).1:=jF l h
def Nm.ev(x:Nm):Fr:= .agg #[.int .i64 (x.kind:Int),.int .i64 (x.slot:Int)]
def kv(p:Nm×Nat):MapEntry:=⟨.string p.1.text,p.1.ev,p.2⟩
def oV(w:Fk)(g:Nat)(L:List Nm):Prop:=∃ (es:List (Nm×Nat)) (n:Nat),w.1[g]? =some (.map (es.map kv).toArray n)/\es.map (·.1)=L
theorem ob(a b:ByteArray):Instr.sameNow .string (.string a) (.string b)=some (decide (a=b)):=by
 let ⟨r,j,g⟩:=MapKept.sameNow_of_keys (d:= .string) (a:= .string a) (b:= .string b) (by simp[GQ]) (by simp[GQ])
 rw[j];by_cases h:a=b
 .rw[g.2 (by rw[h])];simp[h]
 .cases r
  .simp[h]
  .exact absurd (Value.string.inj (g.1 z)) h
def iG(s:ByteArray):List Nm->Nat->Option (Nat×Nm)
 | [],_=>none
 |x::r,i=>if x.text=s then some (i,x) else iG s r (i+1)
theorem jW(s:ByteArray):∀ (g:List (Nm×Nat)) (i:Nat),Hc .string (.string s) (g.map kv) i=some ((iG s (g.map (·.1)) i).map fun p=> (p.1,p.2.ev))
 | [],i=>rfl
 |p::r,i=>by
  by_cases h:p.1.text=s
  .simp[Hc,kv,ob,iG,h]
  .have j:¬s=p.1.text:=fun e=>h e.symm
   simp only[List.map_cons,Hc,kv,ob,iG,h,j,decide_false,if_false]
   exact jW s r (i+1)
theorem oL(s:ByteArray):∀ (L:List Nm) (i:Nat),(iG s L i).map (·.2)=ex L s
 | [],i=>rfl
 |x::r,i=>by
  unfold iG ex
  by_cases h:x.text=s
  .simp[h]
  .simp only[h,if_false,decide_false,List.find?_cons]
   exact oL s r (i+1)
theorem ik:prog.underlying 97=some (.map 9 104):=by kernel_rfl
theorem fs:prog.underlying 9=some .string:=by kernel_rfl
theorem iU{g w:Type}(f:g->w):∀ (l:List g) (j:Nat),(l.map f).eraseIdx j=(l.eraseIdx j).map f
 | [],j=>by simp
 |x::l,0=>rfl
 |x::l,j+1=>by
  show f x::(l.map f).eraseIdx j=f x::(l.eraseIdx j).map f
  rw[iU f l j]
def AU(r:Option Nm):Fr:=match r with
 |none=> .agg #[.int .i64 0,.int .i64 0]
 |some x=>x.ev
theorem jG{L:List Nm}(h:oV w g L)(s:ByteArray):
  (Hx 97 (.map (some g)) (.string s) true).run prog w= .ok (.tuple #[AU (ex L s),.bool (ex L s).isSome]) w:=by
 obtain⟨j,n,D,rfl⟩:=h;have C:GQ .string (.string s):=by simp[GQ]
 have A:Hc .string (.string s) (j.map kv).toArray.toList 0=some ((iG s (j.map (·.1)) 0).map fun p=> (p.1,p.2.ev)):=by simpa using jW s j 0
 rw[<-oL s (j.map (·.1)) 0];rcases hx:iG s (j.map (·.1)) 0 with _|p
 .rw[hx]at A;simp[Hx,Hg ik,GK D,GR fs C,GW fs A,Hr,AU,hx]
 .rw[hx]at A;simp[Hx,Hg ik,GK D,GR fs C,GW fs A,Hr,AU,hx]
structure iz (b:Nat) (w w':Fk):Prop where
 os:w'.os=w.os
 tape:w'.tape=w.tape
 output:w'.output=w.output
 size:w'.1.size=w.1.size
 block:∀k,k≠b->w'.1[k]? =w.1[k]?
theorem jP{o A:Obj}(h:w.1[g]? =some o):iz g w {w with heap:=w.1.setIfInBounds g A}:=⟨z,z,z,by simp,fun k j=> (Iv h).2 k j⟩
theorem sz{L:List Nm}(h:oV w g L)(x:Nm)(C:ex L x.text=none):
  ∃W,(HJ 97 (.map (some g)) (.string x.text) x.ev).run prog w= .ok () W/\oV W g (L++[x])/\iz g w W:=by
 obtain⟨j,n,A,rfl⟩:=h;have E:GQ .string (.string x.text):=by simp[GQ]
 rw[<-oL x.text (j.map (·.1)) 0]at C;have D:Hc .string (.string x.text) (j.map kv).toArray.toList 0=some none:=by have:=jW x.text j 0;rw[Option.map_eq_none_iff.1 C]at this;simpa using this
 refine⟨{w with heap:=w.1.setIfInBounds g (.map ((j++[(x,n)]).map kv).toArray (n+1))},?_,⟨j++[(x,n)],n+1,(Iv A).1,by simp⟩,jP A⟩;simp[HJ,Hg ik,GK A,GR fs E,GW fs D,HN _ A,Hr,kv]
theorem ql(s:ByteArray):∀ (L:List Nm) (i:Nat),match iG s L i with
  |none=>L.eraseP (fun x=>decide (x.text=s))=L
  |some (j,_)=>i<=j/\j-i<L.length/\L.eraseP (fun x=>decide (x.text=s))=L.eraseIdx (j-i)
 | [],i=>rfl
 |x::r,i=>by
  unfold iG
  by_cases h:x.text=s
  .simp[h]
  .simp only[h,if_false]
   have g:=ql s r (i+1)
   rcases hr:iG s r (i+1) with _|⟨j,y⟩
   .rw[hr]at g
    simp only at g
    simp[h,g]
   .rw[hr]at g
    let ⟨C,A,w⟩:=g
    refine⟨by omega,by simp;omega,?_⟩
    rw[show j-i=(j- (i+1))+1 by omega]
    simp[h,w]
theorem zb{L:List Nm}(h:oV w g L)(s:ByteArray):
  ∃W,(Ji #[97,9] 0 #[.map (some g),.string s]).run prog w= .ok (.tuple #[]) W/\oV W g (L.eraseP fun x=>decide (x.text=s))/\iz g w W:=by
 obtain⟨A,n,C,rfl⟩:=h;have F:GQ .string (.string s):=by simp[GQ]
 have D:Hc .string (.string s) (A.map kv).toArray.toList 0=some ((iG s (A.map (·.1)) 0).map fun p=> (p.1,p.2.ev)):=by simpa using jW s A 0
 have hd:=ql s (A.map (·.1)) 0;rcases hx:iG s (A.map (·.1)) 0 with _|⟨j,y⟩
 .rw[hx]at D hd;simp only at hd;refine⟨{w with heap:=w.1.setIfInBounds g (.map (A.map kv).toArray n)},?_,⟨A,n,(Iv C).1,hd.symm⟩,jP C⟩;simp[Ji,Hg ik,GK C,GR fs F,GW fs D,HN _ C,Hr]
 .rw[hx]at D hd;obtain⟨-,-,E⟩:=hd;simp only[Nat.sub_zero]at E;refine⟨{w with heap:=w.1.setIfInBounds g (.map ((A.eraseIdx j).map kv).toArray n)},?_,⟨A.eraseIdx j,n,(Iv C).1,by rw[E,iU]⟩,jP C⟩;simp[Ji,Hg ik,GK C,GR fs F,GW fs D,HN _ C,Hr,iU]
section
variable {w w' w0:Fk} {b c:Nat}
theorem iz.CV(h:iz b w w')(j:c≠b){T:GA}{C:List Fr}(g:ak w c T C):ak w' c T C:=g.of (h.block c j)
theorem iz.below(h:iz b w w'){B:Nat}(A:B<=b)(g:FM B w0 w):FM B w0 w':=g.trans ⟨h.os,h.tape,h.output,GB h.size.symm,fun k j=>h.block k (by omega)⟩
theorem iz.kp(h:iz b w w'):Kp w w' b b:=⟨h.os,h.tape,h.output,GB h.size.symm,fun k _ g _=>h.block k g⟩
theorem Ch.kp(h:Ch b w w'):Kp w w' b b:=by obtain⟨o,vs,rfl⟩:=h;exact Kp.DT vs o (Kp.refl w b b)
end
end Go.Proofs.YtgppcdfgdaggjaaGreatDoor
