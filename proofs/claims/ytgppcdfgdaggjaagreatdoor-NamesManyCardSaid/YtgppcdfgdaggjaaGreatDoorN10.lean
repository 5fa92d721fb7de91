/- Texts laid together. No condition but what each law says. -/
import Derived.Test.YtgppcdfgdaggjaaGreatDoorN09
import Derived.Test.YtgppcdfgdaggjaaGreatDoorN08
import Derived.Deep.MidRow
import Derived.Laws.StructEq
set_option maxRecDepth 100000
set_option maxHeartbeats 8000000
namespace Go.Proofs.YtgppcdfgdaggjaaGreatDoor
open Go.RowKit Go.Maps Go.Proofs.Tryz
open Go.RowKit.Below renaming refl→FB,heap_setCell→FK
open Go renaming World→Fk,Value→Fr,TypeId→GA,plainElem→GO,Calls→Jq
open _root_.Array renaming getElem?_eq_some_iff→FT
open Go.World renaming cell?→FI,frozen?→HQ,grownBy_alloc→Gz,alloc_heap_new→Df,setCells→Ir,size_alloc→Ho
open Nat renaming le_trans→FU,lt_of_lt_of_le→FJ,le_of_lt→HG
open List renaming range→GU
open Bool renaming and_eq_true→FG
open _root_.ByteArray renaming size_extract→Ha,toList→IH,ext→HP
variable {W w w1 w2:Fk}{b g i j k n:Nat}{s t:ByteArray}{v v0 v1:Fr}{A:Act}{a:Option Addr}
theorem Kp.alloc{w':Fk}{a:Nat}(h:Kp w w' a b)(o:Obj):Kp w (w'.alloc o) a b:=
 h.trans (Kp.below ((FB _ w').alloc rl o))
theorem Kp.R{w':Fk}{a r:Nat}(h:Kp w w' a b)(D:w.1.size<=r)(k:Nat)(u:Fr):Kp w (w'.setCell (ad r k) u) a b:=
 ⟨h.os,h.tape,h.output,by simpa [World.setCell]using h.size,fun j C A g=> (FK w' (ad r k) u j (by show j≠r;omega)).trans (h.block j C A g)⟩
theorem Kp.drewN{w':Fk}{a:Nat}(h:Kp w w' a b)(n:Nat):Kp w (w'.drewN n) a b:=⟨h.os,h.tape,h.output,h.size,h.block⟩
def Tk(w:Fk)(b:Nat)(kind:Int)(t:ByteArray)(num:Int)(p:Int×Int):Prop:=w.1[b]? =some (.cells #[.int .i64 kind,.string t,.int .i64 num,.int .i64 p.1,.int .i64 p.2] 142 (0,0))
section
variable {w:Fk} {b:Nat} {kind:Int} {t:ByteArray} {num:Int} {p:Int×Int}
theorem Tk.lt(h:Tk w b kind t num p):b<w.1.size:=(FT.1 h).1
theorem Tk.c0(h:Tk w b kind t num p):w.cell? (ad b 0)=some (I kind):=by unfold Tk at h;simp[FI,h]
theorem Tk.c1(h:Tk w b kind t num p):w.cell? (ad b 1)=some (.string t):=by unfold Tk at h;simp[FI,h]
theorem Tk.c2(h:Tk w b kind t num p):w.cell? (ad b 2)=some (I num):=by unfold Tk at h;simp[FI,h]
theorem Tk.c3(h:Tk w b kind t num p):w.cell? (ad b 3)=some (I p.1):=by unfold Tk at h;simp[FI,h]
theorem Tk.c4(h:Tk w b kind t num p):w.cell? (ad b 4)=some (I p.2):=by unfold Tk at h;simp[FI,h]
theorem Tk.frozen(h:Tk w b kind t num p)(k:Nat):w.frozen? (ad b k)=false:=by unfold Tk at h;simp[HQ,h]
theorem Tk.of{w':Fk}(h:Tk w b kind t num p)(g:w'.1[b]? =w.1[b]?):Tk w' b kind t num p:=g.trans h
theorem Tk.drewN(h:Tk w b kind t num p)(n:Nat):Tk (w.drewN n) b kind t num p:=h
theorem Tk.alloc(h:Tk w b kind t num p)(o:Obj):Tk (w.alloc o) b kind t num p:=h.of ((Gz w o none).block b h.lt (by simp))
theorem Tk.other(h:Tk w b kind t num p){r:Nat}(g:b≠r)(k:Nat)(u:Fr):Tk (w.setCell (ad r k) u) b kind t num p:=h.of (FK w (ad r k) u b g)
theorem Tk.set0(h:Tk w b kind t num p)(x:Int):Tk (w.setCell (ad b 0) (I x)) b x t num p:=by have g:=bz (j:=0) h (I x);unfold Tk;rw[g];simp
theorem Tk.set1(h:Tk w b kind t num p)(x:ByteArray):Tk (w.setCell (ad b 1) (.string x)) b kind x num p:=by have g:=bz (j:=1) h (.string x);unfold Tk;rw[g];simp
theorem Tk.set2(h:Tk w b kind t num p)(x:Int):Tk (w.setCell (ad b 2) (I x)) b kind t x p:=by have g:=bz (j:=2) h (I x);unfold Tk;rw[g];simp
theorem Tk.EV(h:Tk w b kind t num p)(x y:Int):Tk ((w.setCell (ad b 3) (I x)).setCell (ad b 4) (I y)) b kind t num (x,y):=by have g:=bz (j:=4) (bz (j:=3) h (I x)) (I y);unfold Tk;rw[g];simp
theorem Tk.Es(h:Tk w b kind t num p)(j:Int)(g:ByteArray)(n2 x y:Int):Tk (((((w.setCell (ad b 0) (I j)).setCell (ad b 1) (.string g)).setCell (ad b 2) (I n2)).setCell (ad b 3) (I x)).setCell (ad b 4) (I y)) b j g n2 (x,y):=
 (((h.set0 j).set1 g).set2 n2).EV x y
end
theorem Rd.other(h:Rd w b s k v0 v1){r:Nat}(g:b≠r)(j:Nat)(u:Fr):Rd (w.setCell (ad r j) u) b s k v0 v1:=h.of (FK w (ad r j) u b g)
theorem fR{g:Func}{R:Ending->Fk->Prop}{s u:Tmp}{kind num:Int}{p:Int×Int}(h:Tk W b kind t num p)(M:g.results= #[.cell s 142,.tmp u])
  (D:A.tmps.getD s undef=Pt b)(K:A.tmps.getD u undef=v)(hd:A.defers=[])(F:R (.returned (.tuple #[.agg #[I kind,.string t,I num,I p.1,I p.2],v])) W):bodyPost prog g R .ret A W:=by
 have w:=h.c0;have J:=h.c1;have G:=h.c2;have H:=h.c3;have E:=h.c4;have j:A.tmps[s]?.getD undef=Pt b:=by rw[<-D];simp
 have C:A.tmps[u]?.getD undef=v:=by rw[<-K];simp
 refine bodyPost_ret (v:= .tuple #[.agg #[I kind,.string t,I num,I p.1,I p.2],v]) ?_ hd F;simp[results,M,go_sem,j,C,w,J,G,H,E]
def ak(w:Fk)(b:Nat)(ty:GA)(C:List Fr):Prop:=w.1[b]? =some (.cells C.toArray ty (0,0))
section
variable {w:Fk} {b:Nat} {ty:GA} {C:List Fr}
theorem ak.lt(h:ak w b ty C):b<w.1.size:=(FT.1 h).1
theorem ak.of{w':Fk}(h:ak w b ty C)(g:w'.1[b]? =w.1[b]?):ak w' b ty C:=g.trans h
theorem ak.new(w:Fk)(ty:GA)(C:List Fr):ak (w.alloc (.cells C.toArray ty)) w.1.size ty C:=Df _ _
theorem ak.alloc(h:ak w b ty C)(o:Obj):ak (w.alloc o) b ty C:=h.of ((Gz w o none).block b h.lt (by simp))
theorem ak.drew(h:ak w b ty C):ak w.drew b ty C:=h
theorem ak.drewN(h:ak w b ty C)(n:Nat):ak (w.drewN n) b ty C:=h
theorem ak.kp{w':Fk}{p q:Nat}(h:ak w b ty C)(g:Kp w w' p q)(j:b≠p)(A:b≠q):ak w' b ty C:=h.of (g.block b h.lt j A)
theorem ak.below{w':Fk}(h:ak w b ty C)(g:bL w w'):ak w' b ty C:=h.of (g.block b h.lt)
theorem ak.cell(h:ak w b ty C)(j:Nat):w.cell? (ad b j)=C[j]? :=by unfold ak at h;simp[FI,h]
theorem ak.frozen(h:ak w b ty C)(j:Nat):w.frozen? (ad b j)=false:=by unfold ak at h;simp[HQ,h]
theorem ak.range(h:ak w b ty C){pre mid post:List Fr}(A:C=pre++(mid++post)):w.rangeAt b pre.length mid:=fun j v g=>by have D:=(List.getElem?_eq_some_iff.1 g).1;rw[h.cell,A,List.getElem?_append_right (by omega),Nat.add_sub_cancel_left,List.getElem?_append_left D];exact g
theorem ak.whole(h:ak w b ty C):w.rangeAt b 0 C:=by simpa using h.range (pre:=[]) (mid:=C) (post:=[]) (by simp)
theorem ak.there(h:ak w b ty C){o:Nat}(g:o+n<=C.length):w.there b o n:=fun j A=>by refine⟨?_,h.frozen _⟩;rw[h.cell,List.getElem?_eq_getElem (by omega)];rfl
theorem ak.set1(h:ak w b ty C)(j:Nat)(u:Fr):ak (w.setCell (ad b j) u) b ty (C.set j u):=by have:=bz (j:=j) h u;unfold ak;rw[this];simp
theorem ak.other(h:ak w b ty C){r:Nat}(g:b≠r)(k:Nat)(u:Fr):ak (w.setCell (ad r k) u) b ty C:=h.of (FK w (ad r k) u b g)
end
theorem au{r:Nat}(g:b≠r):∀ (vs:List Fr) (o:Nat) (w:Fk),(w.setCells r o vs).1[b]? =w.1[b]?
 | [],_,_=>rfl
 |v::l,o,w=>by rw[Ir,au g l,FK w (ad r o) v b g]
def kh:List Fr->Nat->List Fr->List Fr
 |C,_,[]=>C
 |C,o,v::l=>kh (C.set o v) (o+1) l
theorem hd:∀ (vs mid pre post:List Fr),vs.length=mid.length->kh (pre++(mid++post)) pre.length vs=pre++(vs++post)
 | [],mid,pre,post,h=>by
  obtain rfl:mid=[]:=List.length_eq_zero_iff.1 h.symm
  rfl
 |v::l,[],pre,post,h=>by simp at h
 |v::l,u::mid,pre,post,h=>by
  rw[kh]
  have j:(pre++(u::mid++post)).set pre.length v=(pre++[v])++(mid++post):=by simp
  have g:=hd l mid (pre++[v]) post (by simpa using h)
  rw[j]
  simpa using g
theorem ak.setCells{ty:GA}:∀ (vs:List Fr) (o:Nat) {w:Fk} {C:List Fr},ak w b ty C->ak (w.setCells b o vs) b ty (kh C o vs)
 | [],_,_,_,h=>h
 |v::l,o,w,C,h=>by
  rw[Ir,kh]
  exact ak.setCells l (o+1) (h.set1 o v)
theorem ak.put{ty:GA}{pre mid post vs:List Fr}(h:ak w b ty (pre++(mid++post)))(g:vs.length=mid.length):ak (w.setCells b pre.length vs) b ty (pre++(vs++post)):=by have:=ak.setCells vs pre.length h;rwa [hd _ _ _ _ g]at this
theorem ak.DK{ty:GA}{C vs:List Fr}(h:ak w b ty C)(g:vs.length=C.length):ak (w.setCells b 0 vs) b ty vs:=by simpa using ak.put (pre:=[]) (mid:=C) (post:=[]) (by simpa using h) g
theorem Kp.DT{a:Nat}:∀ (vs:List Fr) (o:Nat) {w':Fk},Kp w w' a b->Kp w (w'.setCells a o vs) a b
 | [],_,_,h=>h
 |v::l,o,w',h=>by
  rw[Ir]
  exact Kp.DT l (o+1) (h.Dg o v)
theorem Kp.flip{w':Fk}{a:Nat}(h:Kp w w' a b):Kp w w' b a:=⟨h.os,h.tape,h.output,h.size,fun k j A g=>h.block k j g A⟩
theorem Kp.Dv{a:Nat}(vs:List Fr)(o:Nat){w':Fk}(h:Kp w w' a b):Kp w (w'.setCells b o vs) a b:=(Kp.DT vs o h.flip).flip
theorem Kp.Dn{a r:Nat}(g:w.1.size<=r):∀ (vs:List Fr) (o:Nat) {w':Fk},Kp w w' a b->Kp w (w'.setCells r o vs) a b
 | [],_,_,h=>h
 |v::l,o,w',h=>by
  rw[Ir]
  exact Kp.Dn g l (o+1) (h.R g o v)
theorem Kp.Db{w':Fk}{a:Nat}(h:Kp w w' a a):Kp w w' a b:=⟨h.os,h.tape,h.output,h.size,fun k j g _=>h.block k j g g⟩
theorem Kp.drop{a r:Nat}(h:Kp w w1 a b)(g:Kp w1 w2 a r)(D:w.1.size<=r):Kp w w2 a b:=
 ⟨g.os.trans h.os,g.tape.trans h.tape,g.output.trans h.output,FU h.size g.size,fun k A j C=> (g.block k (FJ A h.size) j (by omega)).trans (h.block k A j C)⟩
theorem dV{o:Nat}{cs:List Fr}(h:w.there b o n)(C:cs.length=n)(g:∀v∈cs,v.oneCell'=true):
  (storeCells (ad b o) cs).run prog w= .ok () (w.setCells b o cs):=by
 have:=run_storeCells_cells (P:=prog) b o cs 0 w (fun j A=>by simpa using(h j (by omega)).1) (fun j A=>by simpa using(h j (by omega)).2) g;simpa using this
structure Wd where
 kind:Int
 text:ByteArray
 num:Int
 line:Int
 Dm:Int
def Wd.cells(t:Wd):List Fr:=[.int .i64 t.kind,.string t.text,.int .i64 t.num,.int .i64 t.line,.int .i64 t.Dm]
def Wd.val(t:Wd):Fr:= .agg #[.int .i64 t.kind,.string t.text,.int .i64 t.num,.int .i64 t.line,.int .i64 t.Dm]
instance:Inhabited Wd:=⟨⟨0,⟨#[]⟩,0,0,0⟩⟩
def oz(w:Fk)(a:Option Addr)(l:List Wd):Prop:=∀i,i<l.length->∃b off,a=some ⟨b,off,none⟩/\
 w.cell? ⟨b,off+i*5,none⟩=some (.int .i64 (l.getD i default).kind)/\w.cell? ⟨b,off+i*5+1,none⟩=some (.string (l.getD i default).text)/\w.cell? ⟨b,off+i*5+2,none⟩=some (.int .i64 (l.getD i default).num)/\
 w.cell? ⟨b,off+i*5+3,none⟩=some (.int .i64 (l.getD i default).line)/\w.cell? ⟨b,off+i*5+4,none⟩=some (.int .i64 (l.getD i default).Dm)
inductive Ex where
 |mk (kind num:Int) (name:ByteArray) (slot:Int) (loc:Bool) (op:Int) (args:List Ex)
inductive St where
 |mk (kind line Dm:Int) (name wth:ByteArray) (expr index:Ex) (body els:List St) (id slot other:Int) (loc:Bool)
structure De where
 kind:Int
 line:Int
 Dm:Int
 name:ByteArray
 num:Int
 body:List St
def aq:ByteArray:=⟨#[]⟩
def aT:Ex:= .mk 0 0 aq 0 false 0 []
def lW(n:Int):Ex:= .mk 1 n aq 0 false 0 []
def eZ(s:ByteArray):Ex:= .mk 2 0 s 0 false 0 []
def ds(s:ByteArray)(x:Ex):Ex:= .mk 3 0 s 0 false 0 [x]
def jm(x:Ex):Ex:= .mk 4 0 aq 0 false 0 [x]
def ji(x:Ex):Ex:= .mk 5 0 aq 0 false 0 [x]
def dU(op:Nat)(x y:Ex):Ex:= .mk 6 0 aq 0 false op [x,y]
def aP(kind:Int)(p:Int×Int)(name wth:ByteArray)(expr index:Ex)(body els:List St):St:= .mk kind p.1 p.2 name wth expr index body els 0 0 0 false
abbrev PR (α:Type):=Option (Except Nat (α×Nat))
def ap{α β:Type}(x:PR α)(k:α->Nat->PR β):PR β:=match x with
 |none=>none
 |some (.error j)=>some (.error j)
 |some (.ok (a,j))=>k a j
@[simp] theorem zP {α β:Type} (k:α->Nat->PR β):ap none k=none:=rfl
@[simp] theorem tI {α β:Type} (j:Nat) (k:α->Nat->PR β):ap (some (.error j)) k=some (.error j):=rfl
@[simp] theorem ay {α β:Type} (a:α) (j:Nat) (k:α->Nat->PR β):ap (some (.ok (a,j))) k=k a j:=rfl
theorem gp{g w A:Type}(x:PR g)(k:g->Nat->PR w)(l:w->Nat->PR A):ap (ap x k) l=ap x fun a j=>ap (k a j) l:=by rcases x with _| (j|⟨a,j⟩)<;>rfl
section
variable (T:List Wd)
def ba(i:Nat):Int:=if i<T.length then (T.getD i default).kind else 0
def cr(i:Nat)(s:ByteArray):Bool:=decide (i<T.length)&& ((decide ((T.getD i default).kind=3)||decide ((T.getD i default).kind=4))&&decide ((T.getD i default).text=s))
def aU(s:ByteArray)(i:Nat):PR Unit:=if cr T i s=true then some (.ok ((),i+1)) else some (.error i)
def aV(i:Nat):PR ByteArray:=if ba T i=1 then some (.ok ((T.getD i default).text,i+1)) else some (.error i)
def bG(i:Nat):PR Int:=if ba T i=2 then some (.ok ((T.getD i default).num,i+1)) else some (.error i)
def hN:List ByteArray:=[⟨#[]⟩,⟨#[124,124]⟩,⟨#[38,38]⟩,⟨#[61,61]⟩,⟨#[33,61]⟩,⟨#[60]⟩,⟨#[60,61]⟩,⟨#[43]⟩,⟨#[45]⟩,⟨#[42]⟩,⟨#[47]⟩,⟨#[37]⟩]
def xv:List Nat:=[0,1,2,3,3,3,3,4,4,5,5,5]
def gE(s:ByteArray):Nat:=((GU 12).find? fun o=>decide (hN.getD o aq=s)).getD 0
def bm(o:Nat):Nat:=xv.getD o 0
def cq(i:Nat):Nat:=if ba T i=4 then gE (T.getD i default).text else 0
def eg:ByteArray:=⟨#[45]⟩
def sw:ByteArray:=⟨#[33]⟩
def no:ByteArray:=⟨#[40]⟩
def ky:ByteArray:=⟨#[41]⟩
def ho:ByteArray:=⟨#[91]⟩
def gx:ByteArray:=⟨#[93]⟩
def rm:ByteArray:=⟨#[123]⟩
def kY:ByteArray:=⟨#[125]⟩
def iE:ByteArray:=⟨#[61]⟩
def aI:ByteArray:=⟨#[59]⟩
def fq(r:Nat):Nat:=if r=3 then 2 else r
mutual
def pE:Nat->Nat->Nat->PR Ex
 |0,_,_=>none
 |f+1,least,i=>ap (pU f i) fun l j=>pL f least 6 l j
def pL:Nat->Nat->Nat->Ex->Nat->PR Ex
 |0,_,_,_,_=>none
 |f+1,least,CY,l,i=>
  if cq T i=0∨bm (cq T i)<least∨CY<bm (cq T i) then some (.ok (l,i))
  else ap (pE f (bm (cq T i)+1) (i+1)) fun x j=>pL f least (fq (bm (cq T i))) (dU (cq T i) l x) j
def pU:Nat->Nat->PR Ex
 |0,_=>none
 |f+1,i=>
  if cr T i eg=true then ap (pU f (i+1)) fun x j=>some (.ok (jm x,j))
  else if cr T i sw=true then ap (pU f (i+1)) fun x j=>some (.ok (ji x,j))
  else pP f i
def pP:Nat->Nat->PR Ex
 |0,_=>none
 |f+1,i=>
  if cr T i no=true then ap (pE f 1 (i+1)) fun x j=>ap (aU T ky j) fun _ k=>some (.ok (x,k))
  else if ba T i=2 then some (.ok (lW (T.getD i default).num,i+1))
  else ap (aV T i) fun s j=>if cr T j ho=true then ap (pE f 1 (j+1)) fun x k=>ap (aU T gx k) fun _ m=>some (.ok (ds s x,m)) else some (.ok (eZ s,j))
end
theorem cR(h:ba T i≠0):i<T.length:=by
 unfold ba at h;split at h
 .assumption
 .exact absurd z h
theorem cZ(h:cr T i s=true):i<T.length:=by unfold cr at h;simp only[FG,decide_eq_true_eq]at h;exact h.1
theorem jE(h:cq T i≠0):i<T.length:=by
 unfold cq at h;split at h
 .rename_i g;exact cR T (by rw[g];decide)
 .exact absurd z h
theorem tA:∀f,
  (∀n i R,pE T f n i=some R->pE T (f+1) n i=some R)/\(∀n m l i R,pL T f n m l i=some R->pL T (f+1) n m l i=some R)/\
  (∀i R,pU T f i=some R->pU T (f+1) i=some R)/\(∀i R,pP T f i=some R->pP T (f+1) i=some R):=by
 intro f;induction f with
 |zero=>exact⟨fun _ _ _ h=>by simp[pE]at h,fun _ _ _ _ _ h=>by simp[pL]at h,fun _ _ h=>by simp[pU]at h,fun _ _ h=>by simp[pP]at h⟩
 |succ f F=>
  let ⟨A,E,C,G⟩:=F
  refine⟨fun n i R h=>?_,fun n m l i R h=>?_,fun i R h=>?_,fun i R h=>?_⟩
  .rw[pE]at h ⊢;rcases hx:pU T f i with _| (j|⟨a,j⟩)
   .rw[hx]at h;cases h
   .rw[hx]at h;rw[C _ _ hx];exact h
   .rw[hx]at h;rw[C _ _ hx];exact E _ _ _ _ _ h
  .rw[pL]at h ⊢;split at h
   .rename_i g;rw[aD g];exact h
   .rename_i g;rw[am g];rcases hx:pE T f (bm (cq T i)+1) (i+1) with _| (j|⟨a,j⟩)
    .rw[hx]at h;cases h
    .rw[hx]at h;rw[A _ _ _ hx];exact h
    .rw[hx]at h;rw[A _ _ _ hx];exact E _ _ _ _ _ h
  .rw[pU]at h ⊢;split at h
   .rename_i g;rw[aD g];rcases hx:pU T f (i+1) with _| (j|⟨a,j⟩)
    .rw[hx]at h;cases h
    .rw[hx]at h;rw[C _ _ hx];exact h
    .rw[hx]at h;rw[C _ _ hx];exact h
   .rename_i g;rw[am g];split at h
    .rename_i w;rw[aD w];rcases hx:pU T f (i+1) with _| (j|⟨a,j⟩)
     .rw[hx]at h;cases h
     .rw[hx]at h;rw[C _ _ hx];exact h
     .rw[hx]at h;rw[C _ _ hx];exact h
    .rename_i w;rw[am w];exact G _ _ h
  .rw[pP]at h ⊢;split at h
   .rename_i g;rw[aD g];rcases hx:pE T f 1 (i+1) with _| (j|⟨a,j⟩)
    .rw[hx]at h;cases h
    .rw[hx]at h;rw[A _ _ _ hx];exact h
    .rw[hx]at h;rw[A _ _ _ hx];exact h
   .rename_i g;rw[am g];split at h
    .rename_i w;rw[aD w];exact h
    .rename_i w;rw[am w];rcases hn:aV T i with _| (j|⟨s,j⟩)
     .rw[hn]at h;cases h
     .rw[hn]at h;exact h
     .rw[hn]at h;simp only[ay]at h ⊢;split at h
      .rename_i D;rw[aD D];rcases hx:pE T f 1 (j+1) with _| (k|⟨a,k⟩)
       .rw[hx]at h;cases h
       .rw[hx]at h;rw[A _ _ _ hx];exact h
       .rw[hx]at h;rw[A _ _ _ hx];exact h
      .rename_i D;rw[am D];exact h
theorem gM(h:aV T i=some (.ok (s,j))):j=i+1/\i<T.length:=by
 unfold aV at h;split at h
 .rename_i g;simp only[Option.some.injEq,Except.ok.injEq,Prod.mk.injEq]at h;exact⟨h.2.symm,cR T (by rw[g];decide)⟩
 .simp at h
theorem bk(h:aU T s i=some (.ok ((),j))):j=i+1/\i<T.length:=by
 unfold aU at h;split at h
 .rename_i g;simp only[Option.some.injEq,Except.ok.injEq,Prod.mk.injEq]at h;exact⟨h.2.symm,cZ T g⟩
 .simp at h
def km{α:Type}(i:Nat)(R:Except Nat (α×Nat)):Prop:=∀x j,R= .ok (x,j)->i<j/\j<=T.length
def sH{α:Type}(i:Nat)(R:Except Nat (α×Nat)):Prop:=∀x j,R= .ok (x,j)->i<=j/\j<=T.length
theorem sQ:∀f,
  (∀n i,i<=T.length->4* (T.length-i)+3<=f->∃R,pE T f n i=some R/\km T i R)/\(∀n m l i,i<=T.length->4* (T.length-i)+1<=f->∃R,pL T f n m l i=some R/\sH T i R)/\
  (∀i,i<=T.length->4* (T.length-i)+2<=f->∃R,pU T f i=some R/\km T i R)/\(∀i,i<=T.length->4* (T.length-i)+1<=f->∃R,pP T f i=some R/\km T i R):=by
 intro f;induction f with
 |zero=>exact⟨fun _ _ _ h=>by omega,fun _ _ _ _ _ h=>by omega,fun _ _ h=>by omega,fun _ _ h=>by omega⟩
 |succ f U=>
  let ⟨H,K,J,S⟩:=U
  refine⟨fun n i E h=>?_,fun n m l i E h=>?_,fun i E h=>?_,fun i E h=>?_⟩
  .rw[pE];let ⟨R,A,w⟩:=J i E (by omega)
   rw[A];rcases R with j|⟨a,j⟩
   .exact⟨_,z,fun _ _ h=>by cases h⟩
   .let ⟨G,D⟩:=w a j z
    let ⟨R,A,w⟩:=K n 6 a j D (by omega)
    exact⟨R,A,fun x k g=>⟨by have:=w x k g;omega,(w x k g).2⟩⟩
  .rw[pL];split
   .exact⟨_,z,fun x j g=>by cases g;exact⟨rl,E⟩⟩
   .rename_i C;have Q:cq T i≠0:=fun e=>C (.inl e);have F:=jE T Q;let ⟨R,A,w⟩:=H (bm (cq T i)+1) (i+1) (by omega) (by omega)
    rw[A];rcases R with j|⟨a,j⟩
    .exact⟨_,z,fun _ _ h=>by cases h⟩
    .let ⟨G,D⟩:=w a j z
     let ⟨R,A,w⟩:=K n (fq (bm (cq T i))) (dU (cq T i) l a) j D (by omega)
     exact⟨R,A,fun x k g=>⟨by have:=w x k g;omega,(w x k g).2⟩⟩
  .rw[pU];split
   .rename_i C;have F:=cZ T C;let ⟨R,A,w⟩:=J (i+1) (by omega) (by omega)
    rw[A];rcases R with j|⟨a,j⟩
    .exact⟨_,z,fun _ _ h=>by cases h⟩
    .let ⟨G,D⟩:=w a j z
     exact⟨_,z,fun x k g=>by cases g;exact⟨by omega,D⟩⟩
   .split
    .rename_i C;have F:=cZ T C;let ⟨R,A,w⟩:=J (i+1) (by omega) (by omega)
     rw[A];rcases R with j|⟨a,j⟩
     .exact⟨_,z,fun _ _ h=>by cases h⟩
     .let ⟨G,D⟩:=w a j z
      exact⟨_,z,fun x k g=>by cases g;exact⟨by omega,D⟩⟩
    .exact S i E (by omega)
  .rw[pP];split
   .rename_i C;have F:=cZ T C;let ⟨R,A,w⟩:=H 1 (i+1) (by omega) (by omega)
    rw[A];rcases R with j|⟨a,j⟩
    .exact⟨_,z,fun _ _ h=>by cases h⟩
    .let ⟨G,D⟩:=w a j z
     simp only[ay];rcases hw:aU T ky j with _| (k|⟨u,k⟩)
     .unfold aU at hw;split at hw<;>cases hw
     .exact⟨_,z,fun _ _ h=>by cases h⟩
     .let ⟨N,M⟩:=bk T hw
      exact⟨_,z,fun x m g=>by cases g;omega⟩
   .split
    .rename_i C;have F:=cR T (i:=i) (by rw[C];decide);exact⟨_,z,fun x m g=>by cases g;omega⟩
    .rcases hn:aV T i with _| (j|⟨s,j⟩)
     .unfold aV at hn;split at hn<;>cases hn
     .exact⟨_,z,fun _ _ h=>by cases h⟩
     .let ⟨G,D⟩:=gM T hn
      simp only[ay];split
      .rename_i C;have F:=cZ T C;let ⟨R,A,w⟩:=H 1 (j+1) (by omega) (by omega)
       rw[A];rcases R with k|⟨a,k⟩
       .exact⟨_,z,fun _ _ h=>by cases h⟩
       .let ⟨N,M⟩:=w a k z
        simp only[ay];rcases hw:aU T gx k with _| (m|⟨u,m⟩)
        .unfold aU at hw;split at hw<;>cases hw
        .exact⟨_,z,fun _ _ h=>by cases h⟩
        .let ⟨W,V⟩:=bk T hw
         exact⟨_,z,fun x m g=>by cases g;omega⟩
      .exact⟨_,z,fun x m g=>by cases g;omega⟩
end
def fk:List ByteArray:=[⟨#[]⟩,⟨#[108,101,116]⟩,⟨#[]⟩,⟨#[]⟩,⟨#[105,102]⟩,⟨#[119,104,105,108,101]⟩,⟨#[108,111,99,107]⟩,⟨#[117,110,108,111,99,107]⟩,⟨#[119,97,105,116]⟩,⟨#[115,105,103,110,97,108]⟩,⟨#[97,108,108]⟩,⟨#[115,101,110,100]⟩,⟨#[114,101,99,118]⟩,⟨#[115,112,97,119,110]⟩,⟨#[106,111,105,110]⟩,⟨#[112,114,105,110,116]⟩]
def gw:List ByteArray:=[⟨#[]⟩,⟨#[118,97,114]⟩,⟨#[97,114,114,97,121]⟩,⟨#[109,117,116,101,120]⟩,⟨#[99,111,110,100]⟩,⟨#[99,104,97,110]⟩,⟨#[116,104,114,101,97,100]⟩]
def gB:ByteArray:=⟨#[101,108,115,101]⟩
def bQ(s:ByteArray):Nat:=((GU 16).find? fun k=>decide (fk.getD k aq≠aq)&&decide (fk.getD k aq=s)).getD 0
section
variable (T:List Wd)
def cB(i:Nat):Int×Int:=((T.getD i default).line,(T.getD i default).Dm)
def pX(i:Nat):PR Ex:=pE T (4*T.length+4) 1 i
theorem dz(g:i<=T.length):∃R,pX T i=some R/\km T i R:=(sQ T _).1 1 i g (by omega)
def aW(p:Int×Int)(k:Nat)(i:Nat):PR St:=
 if k=14 then ap (aU T aI i) fun _ j=>some (.ok (aP 14 p aq aq aT aT [] [],j))
 else if k=15 then ap (pX T i) fun x j=>ap (aU T aI j) fun _ m=>some (.ok (aP 15 p aq aq x aT [] [],m))
 else ap (aV T i) fun s j=>
  if k=1 then ap (aU T iE j) fun _ m=>ap (pX T m) fun x n=>ap (aU T aI n) fun _ q=>some (.ok (aP 1 p s aq x aT [] [],q))
  else if k=8∨k=12 then ap (aV T j) fun t m=>ap (aU T aI m) fun _ q=>some (.ok (aP k p s t aT aT [] [],q))
  else if k=11 then ap (pX T j) fun x m=>ap (aU T aI m) fun _ q=>some (.ok (aP 11 p s aq x aT [] [],q))
  else ap (aU T aI j) fun _ q=>some (.ok (aP k p s aq aT aT [] [],q))
def bU(p:Int×Int)(i:Nat):PR St:=
 ap (aV T i) fun s j=>
  if cr T j ho=true then ap (pX T (j+1)) fun y m=>ap (aU T gx m) fun _ n=>ap (aU T iE n) fun _ q=>ap (pX T q) fun x r=>ap (aU T aI r) fun _ t=>some (.ok (aP 3 p s aq x y [] [],t))
  else ap (aU T iE j) fun _ n=>ap (pX T n) fun x r=>ap (aU T aI r) fun _ t=>some (.ok (aP 2 p s aq x aT [] [],t))
mutual
def pB:Nat->Nat->PR (List St)
 |0,_=>none
 |f+1,i=>ap (aU T rm i) fun _ j=>hw f [] j
def hw:Nat->List St->Nat->PR (List St)
 |0,_,_=>none
 |f+1,acc,i=>if cr T i kY=true then some (.ok (acc,i+1)) else ap (pS f i) fun s j=>hw f (acc++[s]) j
def pS:Nat->Nat->PR St
 |0,_=>none
 |f+1,i=>
  if ba T i=1 then bU T (cB T i) i
  else if ba T i≠3∨bQ (T.getD i default).text=0 then some (.error i)
  else if bQ (T.getD i default).text=5 then ap (pX T (i+1)) fun x j=>ap (pB f j) fun b m=>some (.ok (aP 5 (cB T i) aq aq x aT b [],m))
  else if bQ (T.getD i default).text=4 then ap (pX T (i+1)) fun x j=>ap (pB f j) fun b m=>
   if cr T m gB=true then ap (pB f (m+1)) fun c n=>some (.ok (aP 4 (cB T i) aq aq x aT b c,n)) else some (.ok (aP 4 (cB T i) aq aq x aT b [],m))
  else aW T (cB T i) (bQ (T.getD i default).text) (i+1)
end
theorem bl(s:ByteArray)(_:i<=T.length):∃R,aU T s i=some R/\km T i R:=by
 unfold aU;split
 .rename_i h;have:=cZ T h;exact⟨_,z,fun _ _ h=>by cases h;omega⟩
 .exact⟨_,z,fun _ _ h=>by cases h⟩
theorem fp(_:i<=T.length):∃R,aV T i=some R/\km T i R:=by
 unfold aV;split
 .rename_i h;have:=cR T (i:=i) (by rw[h];decide);exact⟨_,z,fun _ _ h=>by cases h;omega⟩
 .exact⟨_,z,fun _ _ h=>by cases h⟩
theorem gP(_:i<=T.length):∃R,bG T i=some R/\km T i R:=by
 unfold bG;split
 .rename_i h;have:=cR T (i:=i) (by rw[h];decide);exact⟨_,z,fun _ _ h=>by cases h;omega⟩
 .exact⟨_,z,fun _ _ h=>by cases h⟩
theorem aB{w E:Type}{x:PR w}{k:w->Nat->PR E}(g:∃R,x=some R/\km T i R)(F:∀a j,i<j->j<=T.length->∃R,k a j=some R/\sH T j R):∃R,ap x k=some R/\km T i R:=by
 obtain⟨R,rfl,G⟩:=g;rcases R with j|⟨a,j⟩
 .exact⟨_,z,fun _ _ h=>by cases h⟩
 .let ⟨H,A⟩:=G a j z
  let ⟨R,C,D⟩:=F a j H A
  exact⟨R,C,fun x m g=>by have:=D x m g;omega⟩
theorem km.l{g:Type}{R:Except Nat (g×Nat)}(h:km T i R):sH T i R:=fun x j w=>by have:=h x j w;omega
theorem bn{w:Type}{x:PR w}(h:∃R,x=some R/\km T i R):∃R,x=some R/\sH T i R:=by
 let ⟨R,j,g⟩:=h
 exact⟨R,j,g.l⟩
theorem bO{g:Type}(a:g)(j:i<=T.length):∃R:Except Nat (g×Nat),(some (Except.ok (a,i)):PR g)=some R/\sH T i R:=⟨_,z,fun _ _ h=>by cases h;omega⟩
theorem ib(p:Int×Int)(k:Nat)(g:i<=T.length):∃R,aW T p k i=some R/\km T i R:=by
 unfold aW;split
 .exact aB T (bl T _ g) fun _ j _ h=>bO T _ h
 split
 .exact aB T (dz T g) fun _ j _ h=>bn T (aB T (bl T _ h) fun _ j _ h=>bO T _ h)
 refine aB T (fp T g) fun s j _ h=>?_;split
 .exact bn T (aB T (bl T _ h) fun _ j _ h=>bn T (aB T (dz T h) fun _ j _ h=>bn T (aB T (bl T _ h) fun _ j _ h=>bO T _ h)))
 split
 .exact bn T (aB T (fp T h) fun _ j _ h=>bn T (aB T (bl T _ h) fun _ j _ h=>bO T _ h))
 split
 .exact bn T (aB T (dz T h) fun _ j _ h=>bn T (aB T (bl T _ h) fun _ j _ h=>bO T _ h))
 .exact bn T (aB T (bl T _ h) fun _ j _ h=>bO T _ h)
theorem hv(p:Int×Int)(g:i<=T.length):∃R,bU T p i=some R/\km T i R:=by
 unfold bU;refine aB T (fp T g) fun s j _ h=>?_;split
 .rename_i A;have E:=cZ T A;apply bn T;let ⟨R,C,D⟩:=aB T (dz T (i:=j+1) (by omega)) (k:=fun y m=>ap (aU T gx m) fun _ n=>ap (aU T iE n) fun _ q=>ap (pX T q) fun x r=>ap (aU T aI r) fun _ t=>some (.ok (aP 3 p s aq x y [] [],t))) fun _ j _ h=>bn T (aB T (bl T _ h) fun _ j _ h=>bn T (aB T (bl T _ h) fun _ j _ h=>bn T (aB T (dz T h) fun _ j _ h=>bn T (aB T (bl T _ h) fun _ j _ h=>bO T _ h))))
  exact⟨R,C,fun x m w=>by have:=D x m w;omega⟩
 .exact bn T (aB T (bl T _ h) fun _ j _ h=>bn T (aB T (dz T h) fun _ j _ h=>bn T (aB T (bl T _ h) fun _ j _ h=>bO T _ h)))
theorem vm:∀f,
  (∀i,i<=T.length->3* (T.length-i)+1<=f->∃R,pB T f i=some R/\km T i R)/\(∀acc i,i<=T.length->3* (T.length-i)+2<=f->∃R,hw T f acc i=some R/\km T i R)/\
  (∀i,i<=T.length->3* (T.length-i)+1<=f->∃R,pS T f i=some R/\km T i R):=by
 intro f;induction f with
 |zero=>exact⟨fun _ _ h=>by omega,fun _ _ _ h=>by omega,fun _ _ h=>by omega⟩
 |succ f N=>
  let ⟨D,E,G⟩:=N
  refine⟨fun i w h=>?_,fun acc i w h=>?_,fun i w h=>?_⟩
  .rw[pB];exact aB T (bl T _ w) fun _ j C g=>bn T (E [] j g (by omega))
  .rw[hw];split
   .rename_i A;have:=cZ T A;exact⟨_,z,fun _ _ h=>by cases h;omega⟩
   .exact aB T (G i w (by omega)) fun s j C g=>bn T (E _ j g (by omega))
  .rw[pS];split
   .exact hv T _ w
   split
   .exact⟨_,z,fun _ _ h=>by cases h⟩
   rename_i U A;have J:ba T i=3:=by
    rcases Int.decEq (ba T i) 3 with h|h
    .exact absurd (.inl h) A
    .exact h
   have S:=cR T (i:=i) (by rw[J];decide);have up:∀ {H:Type} {x:PR H},(∃R,x=some R/\km T (i+1) R)->∃R,x=some R/\km T i R:=fun ⟨R,C,g⟩=>⟨R,C,fun a j h=>by have:=g a j h;omega⟩;split
   .exact up (aB T (dz T (by omega)) fun x j C g=>bn T (aB T (D j g (by omega)) fun b m _ h=>bO T _ h))
   split
   .refine up (aB T (dz T (by omega)) fun x j C g=>bn T (aB T (D j g (by omega)) fun b m Q F=>?_));split
    .rename_i A;have:=cZ T A;let ⟨R,K,M⟩:=aB T (D (m+1) (by omega) (by omega)) (k:=fun c n=>some (.ok (aP 4 (cB T i) aq aq x aT b c,n))) fun c n _ h=>bO T _ h
     exact⟨R,K,fun a n h=>by have:=M a n h;omega⟩
    .exact bO T _ F
   .exact up (ib T _ _ (by omega))
def rb(i:Nat):PR (List St):=pB T (3*T.length+3) i
theorem le(g:i<=T.length):∃R,rb T i=some R/\km T i R:=(vm T _).1 i g (by omega)
def bZ(k:Int)(p:Int×Int)(s:ByteArray)(n:Int)(b:List St):De:=⟨k,p.1,p.2,s,n,b⟩
def ca(i:Nat):Nat:=((GU 7).find? fun k=>decide (k≠0)&&cr T i (gw.getD k aq)).getD 0
def pD(i:Nat):PR De:=
 if ca T i=0 then some (.error i)
 else ap (aV T (i+1)) fun s j=>
  if ca T i=1 then ap (aU T iE j) fun _ m=>
   if cr T m eg=true then ap (bG T (m+1)) fun n q=>ap (aU T aI q) fun _ t=>some (.ok (bZ 1 (cB T i) s (-n) [],t))
   else ap (bG T m) fun n q=>ap (aU T aI q) fun _ t=>some (.ok (bZ 1 (cB T i) s n [],t))
  else if ca T i=2∨ca T i=5 then ap (bG T j) fun n q=>ap (aU T aI q) fun _ t=>some (.ok (bZ (ca T i) (cB T i) s n [],t))
  else if ca T i=6 then ap (rb T j) fun b q=>some (.ok (bZ 6 (cB T i) s 0 b,q))
  else ap (aU T aI j) fun _ t=>some (.ok (bZ (ca T i) (cB T i) s 0 [],t))
theorem eJ(h:ca T i≠0):i<T.length:=by
 unfold ca at h;rcases hf:(GU 7).find? fun k=>decide (k≠0)&&cr T i (gw.getD k aq) with _|k
 .rw[hf]at h;exact absurd z h
 .have:=List.find?_some hf;simp only[FG]at this;exact cZ T this.2
theorem ol(_:i<=T.length):∃R,pD T i=some R/\km T i R:=by
 unfold pD;split
 .exact⟨_,z,fun _ _ h=>by cases h⟩
 rename_i g;have G:=eJ T g;have up:∀ {A:Type} {x:PR A},(∃R,x=some R/\km T (i+1) R)->∃R,x=some R/\km T i R:=fun ⟨R,E,w⟩=>⟨R,E,fun a j h=>by have:=w a j h;omega⟩;refine up (aB T (fp T (by omega)) fun s j _ h=>?_);split
 .refine bn T (aB T (bl T _ h) fun _ m _ h=>?_);split
  .rename_i g;have:=cZ T g;let ⟨R,C,D⟩:=aB T (gP T (i:=m+1) (by omega)) (k:=fun n q=>ap (aU T aI q) fun _ t=>some (.ok (bZ 1 (cB T i) s (-n) [],t))) fun _ q _ h=>bn T (aB T (bl T _ h) fun _ j _ h=>bO T _ h)
   exact⟨R,C,fun a n h=>by have:=D a n h;omega⟩
  .exact bn T (aB T (gP T h) fun _ q _ h=>bn T (aB T (bl T _ h) fun _ j _ h=>bO T _ h))
 split
 .exact bn T (aB T (gP T h) fun _ q _ h=>bn T (aB T (bl T _ h) fun _ j _ h=>bO T _ h))
 split
 .exact bn T (aB T (le T h) fun _ q _ h=>bO T _ h)
 .exact bn T (aB T (bl T _ h) fun _ j _ h=>bO T _ h)
def iA:Nat->List De->Nat->PR (List De)
 |0,_,_=>none
 |f+1,acc,i=>if i<T.length then ap (pD T i) fun d j=>iA f (acc++[d]) j else some (.ok (acc,i))
theorem lF:∀f acc i,i<=T.length->T.length-i+1<=f->∃R,iA T f acc i=some R:=by
 intro f;induction f with
 |zero=>intro _ _ _ h;omega
 |succ f A=>
  intro acc i g h;rw[iA];split
  .let ⟨R,C,D⟩:=ol T g
   rw[C];rcases R with j|⟨a,j⟩
   .exact⟨_,z⟩
   .let ⟨E,w⟩:=D a j z
    exact A _ j w (by omega)
  .exact⟨_,z⟩
end
mutual
def Ex.depth:Ex->Nat
 | .mk _ _ _ _ _ _ args=>Ex.Dl args+1
def Ex.Dl:List Ex->Nat
 | []=>0
 |e::r=>max e.depth (Ex.Dl r)
end
mutual
def St.deep:St->Nat->Option (Int×Int)
 | .mk _ l c _ _ x y b e _ _ _ _,d=>if 24<d∨24<y.depth∨24<x.depth then some (l,c) else match St.Da b (d+1) with
  |some p=>some p
  |none=>St.Da e (d+1)
def St.Da:List St->Nat->Option (Int×Int)
 | [],_=>none
 |s::r,d=>match s.deep d with
  |some p=>some p
  |none=>St.Da r d
end
def cA:List De->Option (Int×Int)
 | []=>none
 |d::r=>match St.Da d.body 1 with
  |some p=>some p
  |none=>cA r
def aF(n cap:Nat):Prop:=n<=cap/\cap<=9223372036854775807
mutual
def ExL (ok:Nat->Prop) (w:Fk):List Fr->Ex->Prop
 |cs,.mk k n s sl lo o args=>∃ (a:Option Addr) (cap:Nat),cs=[.int .i64 k,.int .i64 n,.string s,.int .i64 sl,.bool lo,.int .i64 o,.slice a args.length cap]/\aF args.length cap/\ch ok w a 0 args
def ch (ok:Nat->Prop) (w:Fk):Option Addr->Nat->List Ex->Prop
 |_,_,[]=>True
 |a,i,e::r=> (∃ (b off:Nat) (cs:List Fr),a=some ⟨b,off,none⟩/\ok b/\(∀ (t:Nat) (v:Fr),cs[t]? =some v->w.cell? ⟨b,off+i*7+t,none⟩=some v)/\ExL ok w cs e)/\ch ok w a (i+1) r
end
mutual
theorem ExL.keep {ok:Nat->Prop} {w w':Fk} (hk:∀ (b o:Nat) (v:Fr),ok b->w.cell? ⟨b,o,none⟩=some v->w'.cell? ⟨b,o,none⟩=some v):∀ {cs:List Fr} {e:Ex},ExL ok w cs e->ExL ok w' cs e
 |cs,.mk k n s sl lo o args,h=>by
  unfold ExL at h ⊢
  obtain⟨a,cap,h1,h2,h3⟩:=h
  exact⟨a,cap,h1,h2,ch.keep hk h3⟩
theorem ch.keep {ok:Nat->Prop} {w w':Fk} (hk:∀ (b o:Nat) (v:Fr),ok b->w.cell? ⟨b,o,none⟩=some v->w'.cell? ⟨b,o,none⟩=some v):∀ {a:Option Addr} {i:Nat} {l:List Ex},ch ok w a i l->ch ok w' a i l
 |_,_,[],_=>by unfold ch;trivial
 |a,i,e::r,h=>by
  unfold ch at h ⊢
  obtain⟨⟨b,off,cs,h1,h2,h3,h4⟩,h5⟩:=h
  exact⟨⟨b,off,cs,h1,h2,fun t v hv=>hk _ _ _ h2 (h3 t v hv),ExL.keep hk h4⟩,ch.keep hk h5⟩
end
mutual
theorem ExL.CQ {ok ok':Nat->Prop} {w:Fk} (hk:∀b,ok b->ok' b):∀ {cs:List Fr} {e:Ex},ExL ok w cs e->ExL ok' w cs e
 |cs,.mk k n s sl lo o args,h=>by
  unfold ExL at h ⊢
  obtain⟨a,cap,h1,h2,h3⟩:=h
  exact⟨a,cap,h1,h2,ch.CQ hk h3⟩
theorem ch.CQ {ok ok':Nat->Prop} {w:Fk} (hk:∀b,ok b->ok' b):∀ {a:Option Addr} {i:Nat} {l:List Ex},ch ok w a i l->ch ok' w a i l
 |_,_,[],_=>by unfold ch;trivial
 |a,i,e::r,h=>by
  unfold ch at h ⊢
  obtain⟨⟨b,off,cs,h1,h2,h3,h4⟩,h5⟩:=h
  exact⟨⟨b,off,cs,h1,hk _ h2,h3,ExL.CQ hk h4⟩,ch.CQ hk h5⟩
end
theorem ch.at{ok:Nat->Prop}:∀ {l:List Ex} {i:Nat},ch ok w a i l->∀j,j<l.length->
  ∃ (b g:Nat) (cs:List Fr),a=some (ad b g)/\ok b/\(∀ (t:Nat) (v:Fr),cs[t]? =some v->w.cell? ⟨b,g+(i+j)*7+t,none⟩=some v)/\ExL ok w cs (l.getD j aT)
 | [],_,_,j,hj=>by cases hj
 |e::r,i,h,j,hj=>by
  unfold ch at h
  let ⟨⟨b,g,cs,E,D,C,A⟩,F⟩:=h
  cases j with
  |zero=>exact⟨b,g,cs,E,D,C,A⟩
  |succ j=>
   have:=F.at j (by simpa using hj)
   rw[show i+(j+1)=i+1+j by omega]
   simpa using this
theorem ch.mk{ok:Nat->Prop}:∀ {l:List Ex} {i:Nat},(∀j,j<l.length->∃ (b g:Nat) (cs:List Fr),a=some (ad b g)/\ok b/\(∀ (t:Nat) (v:Fr),cs[t]? =some v->w.cell? ⟨b,g+(i+j)*7+t,none⟩=some v)/\ExL ok w cs (l.getD j aT))->ch ok w a i l
 | [],_,_=>by unfold ch;trivial
 |e::r,i,h=>by
  unfold ch
  refine⟨h 0 (by simp),ch.mk (l:=r) (i:=i+1) fun j A=>?_⟩
  have:=h (j+1) (by simpa using A)
  rw[show i+1+j=i+(j+1) by omega]
  simpa using this
mutual
def bX (ok:Nat->Prop) (w:Fk):List Fr->St->Prop
 |cs,.mk k l c s t x y body els id sl ot lo=>∃ (cx cy:List Fr) (a a':Option Addr) (cap cap':Nat),
  cs= .int .i64 k:: .int .i64 l:: .int .i64 c:: .string s:: .string t::(cx++(cy++[.slice a body.length cap,.slice a' els.length cap',.int .i64 id,.int .i64 sl,.int .i64 ot,.bool lo]))/\
   ExL ok w cx x/\ExL ok w cy y/\aF body.length cap/\aE ok w a 0 body/\aF els.length cap'/\aE ok w a' 0 els
def aE (ok:Nat->Prop) (w:Fk):Option Addr->Nat->List St->Prop
 |_,_,[]=>True
 |a,i,s::r=> (∃ (b off:Nat) (cs:List Fr),a=some ⟨b,off,none⟩/\ok b/\(∀ (t:Nat) (v:Fr),cs[t]? =some v->w.cell? ⟨b,off+i*25+t,none⟩=some v)/\bX ok w cs s)/\aE ok w a (i+1) r
end
mutual
theorem bX.keep {ok:Nat->Prop} {w w':Fk} (hk:∀ (b o:Nat) (v:Fr),ok b->w.cell? ⟨b,o,none⟩=some v->w'.cell? ⟨b,o,none⟩=some v):∀ {cs:List Fr} {s:St},bX ok w cs s->bX ok w' cs s
 |cs,.mk k l c s t x y body els id sl ot lo,h=>by
  unfold bX at h ⊢
  obtain⟨cx,cy,a,a',cap,cap',h1,h2,h3,h4,h5,h6,h7⟩:=h
  exact⟨cx,cy,a,a',cap,cap',h1,h2.keep hk,h3.keep hk,h4,aE.keep hk h5,h6,aE.keep hk h7⟩
theorem aE.keep {ok:Nat->Prop} {w w':Fk} (hk:∀ (b o:Nat) (v:Fr),ok b->w.cell? ⟨b,o,none⟩=some v->w'.cell? ⟨b,o,none⟩=some v):∀ {a:Option Addr} {i:Nat} {l:List St},aE ok w a i l->aE ok w' a i l
 |_,_,[],_=>by unfold aE;trivial
 |a,i,e::r,h=>by
  unfold aE at h ⊢
  obtain⟨⟨b,off,cs,h1,h2,h3,h4⟩,h5⟩:=h
  exact⟨⟨b,off,cs,h1,h2,fun t v hv=>hk _ _ _ h2 (h3 t v hv),bX.keep hk h4⟩,aE.keep hk h5⟩
end
mutual
theorem bX.CQ {ok ok':Nat->Prop} {w:Fk} (hk:∀b,ok b->ok' b):∀ {cs:List Fr} {s:St},bX ok w cs s->bX ok' w cs s
 |cs,.mk k l c s t x y body els id sl ot lo,h=>by
  unfold bX at h ⊢
  obtain⟨cx,cy,a,a',cap,cap',h1,h2,h3,h4,h5,h6,h7⟩:=h
  exact⟨cx,cy,a,a',cap,cap',h1,h2.CQ hk,h3.CQ hk,h4,aE.CQ hk h5,h6,aE.CQ hk h7⟩
theorem aE.CQ {ok ok':Nat->Prop} {w:Fk} (hk:∀b,ok b->ok' b):∀ {a:Option Addr} {i:Nat} {l:List St},aE ok w a i l->aE ok' w a i l
 |_,_,[],_=>by unfold aE;trivial
 |a,i,e::r,h=>by
  unfold aE at h ⊢
  obtain⟨⟨b,off,cs,h1,h2,h3,h4⟩,h5⟩:=h
  exact⟨⟨b,off,cs,h1,hk _ h2,h3,bX.CQ hk h4⟩,aE.CQ hk h5⟩
end
instance:Inhabited St:=⟨aP 0 (0,0) aq aq aT aT [] []⟩
theorem aE.at{ok:Nat->Prop}:∀ {l:List St} {i:Nat},aE ok w a i l->∀j,j<l.length->
  ∃ (b g:Nat) (cs:List Fr),a=some (ad b g)/\ok b/\(∀ (t:Nat) (v:Fr),cs[t]? =some v->w.cell? ⟨b,g+(i+j)*25+t,none⟩=some v)/\bX ok w cs (l.getD j default)
 | [],_,_,j,hj=>by cases hj
 |e::r,i,h,j,hj=>by
  unfold aE at h
  let ⟨⟨b,g,cs,E,D,C,A⟩,F⟩:=h
  cases j with
  |zero=>exact⟨b,g,cs,E,D,C,A⟩
  |succ j=>
   have:=F.at j (by simpa using hj)
   rw[show i+(j+1)=i+1+j by omega]
   simpa using this
theorem aE.mk{ok:Nat->Prop}:∀ {l:List St} {i:Nat},(∀j,j<l.length->∃ (b g:Nat) (cs:List Fr),a=some (ad b g)/\ok b/\(∀ (t:Nat) (v:Fr),cs[t]? =some v->w.cell? ⟨b,g+(i+j)*25+t,none⟩=some v)/\bX ok w cs (l.getD j default))->aE ok w a i l
 | [],_,_=>by unfold aE;trivial
 |e::r,i,h=>by
  unfold aE
  refine⟨h 0 (by simp),aE.mk (l:=r) (i:=i+1) fun j A=>?_⟩
  have:=h (j+1) (by simpa using A)
  rw[show i+1+j=i+(j+1) by omega]
  simpa using this
def fS(ok:Nat->Prop)(w:Fk)(cs:List Fr)(d:De):Prop:=∃ (a:Option Addr) (cap:Nat),cs=[.int .i64 d.kind,.int .i64 d.line,.int .i64 d.Dm,.string d.name,.int .i64 d.num,.slice a d.body.length cap]/\aF d.body.length cap/\aE ok w a 0 d.body
instance:Inhabited De:=⟨⟨0,0,0,aq,0,[]⟩⟩
def cQ(ok:Nat->Prop)(w:Fk)(a:Option Addr)(l:List De):Prop:=∀j,j<l.length->∃ (b off:Nat) (cs:List Fr),a=some ⟨b,off,none⟩/\ok b/\(∀ (t:Nat) (v:Fr),cs[t]? =some v->w.cell? ⟨b,off+j*6+t,none⟩=some v)/\fS ok w cs (l.getD j default)
theorem fS.keep{ok:Nat->Prop}{w':Fk}(j:∀ (b o:Nat) (v:Fr),ok b->w.cell? (ad b o)=some v->w'.cell? (ad b o)=some v){cs:List Fr}{d:De}(h:fS ok w cs d):fS ok w' cs d:=by
 let ⟨a,cap,C,g,A⟩:=h
 exact⟨a,cap,C,g,A.keep j⟩
theorem cQ.keep{ok:Nat->Prop}{w':Fk}(A:∀ (b o:Nat) (v:Fr),ok b->w.cell? (ad b o)=some v->w'.cell? (ad b o)=some v){l:List De}(h:cQ ok w a l):cQ ok w' a l:=fun j F=>by
 let ⟨b,G,cs,H,g,D,C⟩:=h j F
 exact⟨b,G,cs,H,g,fun t v E=>A _ _ _ g (D t v E),C.keep A⟩
theorem fS.CQ{ok ok':Nat->Prop}(j:∀b,ok b->ok' b){cs:List Fr}{d:De}(h:fS ok w cs d):fS ok' w cs d:=by
 let ⟨a,cap,C,g,A⟩:=h
 exact⟨a,cap,C,g,A.CQ j⟩
theorem cQ.CQ{ok ok':Nat->Prop}(g:∀b,ok b->ok' b){l:List De}(h:cQ ok w a l):cQ ok' w a l:=fun j D=>by
 let ⟨b,F,cs,G,E,C,A⟩:=h j D
 exact⟨b,F,cs,G,g _ E,C,A.CQ g⟩
section
variable (T:List Wd)
theorem vl:∀d f n i R,pE T f n i=some R->pE T (f+d) n i=some R:=by
 intro d;induction d with
 |zero=>intro f n i R h;exact h
 |succ d g=>intro f n i R h;exact(tA T (f+d)).1 n i R (g f n i R h)
theorem yy{f:Nat}{x:Ex}(A:i<=T.length)(h:pE T f n i=some (.ok (x,j))):i<j/\j<=T.length:=by
 let ⟨R,g,C⟩:=(sQ T (f+(4* (T.length-i)+3))).1 n i A (by omega)
 have w:=vl T (4* (T.length-i)+3) f n i _ h;rw[w]at g;cases g;exact C _ _ z
end
theorem pZ(T:List Wd)(n i:Nat):pE T 0 n i=none:=by unfold pE;rfl
theorem hO(T:List Wd)(i:Nat):pU T 0 i=none:=by unfold pU;rfl
theorem mJ(T:List Wd)(i:Nat):pP T 0 i=none:=by unfold pP;rfl
theorem iZ(o:Nat):bm o<=5:=by
 by_cases h:o<12
 .have:∀o,o<12->bm o<=5:=by decide
  exact this o h
 .have:bm o=0:=by unfold bm;rw[List.getD_eq_getElem?_getD,List.getElem?_eq_none (by simp[xv];omega)];rfl
  omega
theorem aa{g w:Type}{x:PR g}{k:g->Nat->PR w}{r:w×Nat}(h:ap x k=some (.ok r)):∃a j,x=some (.ok (a,j))/\k a j=some (.ok r):=by
 rcases x with _| (j|⟨a,j⟩)
 .cases h
 .cases h
 .exact⟨a,j,z,h⟩
section
variable (T:List Wd)
theorem lB{x:Ex}(w:i<=T.length)(h:pX T i=some (.ok (x,j))):i<j/\j<=T.length:=by
 let ⟨R,A,g⟩:=dz T w
 rw[A]at h;cases h;exact g _ _ z
theorem oS{p:Int×Int}{s:St}(w:i<=T.length)(h:aW T p k i=some (.ok (s,j))):i<j/\j<=T.length:=by
 let ⟨R,A,g⟩:=ib T p k w
 rw[A]at h;cases h;exact g _ _ z
theorem nA{p:Int×Int}{s:St}(w:i<=T.length)(h:bU T p i=some (.ok (s,j))):i<j/\j<=T.length:=by
 let ⟨R,A,g⟩:=hv T p w
 rw[A]at h;cases h;exact g _ _ z
theorem mK:∀f,
  (∀i l j,i<=T.length->pB T f i=some (.ok (l,j))->i<j/\j<=T.length)/\(∀acc i l j,i<=T.length->hw T f acc i=some (.ok (l,j))->i<j/\j<=T.length)/\
  (∀i s j,i<=T.length->pS T f i=some (.ok (s,j))->i<j/\j<=T.length):=by
 intro f;induction f with
 |zero=>exact⟨fun _ _ _ _ h=>by simp[pB]at h,fun _ _ _ _ _ h=>by simp[hw]at h,fun _ _ _ _ h=>by simp[pS]at h⟩
 |succ f N=>
  let ⟨H,J,K⟩:=N
  refine⟨fun i l j D h=>?_,fun acc i l j D h=>?_,fun i s j D h=>?_⟩
  .rw[pB]at h;let ⟨_,k,A,g⟩:=aa h
   have C:=bk T A;have w:=J _ _ _ _ (by omega) g;omega
  .rw[hw]at h;split at h
   .rename_i E;have:=cZ T E;cases h;omega
   .let ⟨s,k,A,g⟩:=aa h
    have C:=K _ _ _ D A;have w:=J _ _ _ _ C.2 g;omega
  .rw[pS]at h;split at h
   .exact nA T D h
   split at h
   .cases h
   rename_i W E;have R:ba T i=3:=by
    rcases Int.decEq (ba T i) 3 with h|h
    .exact absurd (.inl h) E
    .exact h
   have G:=cR T (i:=i) (by rw[R];decide);split at h
   .let ⟨x,k,A,g⟩:=aa h
    let ⟨b,m,C,w⟩:=aa g
    have F:=lB T G A;have U:=H _ _ _ F.2 C;cases w;omega
   split at h
   .let ⟨x,k,A,g⟩:=aa h
    let ⟨b,m,C,w⟩:=aa g
    have F:=lB T G A;have U:=H _ _ _ F.2 C;split at w
    .rename_i Q;have:=cZ T Q;let ⟨c,n,S,M⟩:=aa w
     have V:=H _ _ _ (by omega) S;cases M;omega
    .cases w;omega
   .have:=oS T G h;omega
theorem mo{d:De}(w:i<=T.length)(h:pD T i=some (.ok (d,j))):i<j/\j<=T.length:=by
 let ⟨R,A,g⟩:=ol T w
 rw[A]at h;cases h;exact g _ _ z
theorem pH(i:Nat):pS T 0 i=none:=by unfold pS;rfl
theorem qk(i:Nat):pB T 0 i=none:=by unfold pB;rfl
theorem ny(acc:List St)(i:Nat):hw T 0 acc i=none:=by unfold hw;rfl
end
def kk(w:Fk)(b:Nat)(s:ByteArray)(k:Nat)(kw sg:Fr)(kind:Int)(e:Nat)(num err:Int)(x:Ending)(w':Fk):Prop:=
 x= .returned (.tuple #[.agg #[.int .i64 kind,.string (s.extract k e),.int .i64 num,.int .i64 (ao s k).1,.int .i64 (ao s k).2],.int .i64 err])/\Rd w' b s e kw sg/\Kp w w' b b
abbrev cU:Obj:= .cells #[.int .i64 0,.string ⟨#[]⟩,.int .i64 0,.int .i64 0,.int .i64 0] 142
abbrev ft (p:Int×Int):Obj:= .cells #[.int .i64 0,.string ⟨#[]⟩,.int .i64 0,.int .i64 p.1,.int .i64 p.2] 142
theorem nb{D:DataW Unit}(h:w.ownsMap prog 9 (GO prog 3) g n D){r:Nat}(j:g≠r)(k:Nat)(u:Fr):(w.setCell (ad r k) u).ownsMap prog 9 (GO prog 3) g n D:=by
 let ⟨F,E,A,C⟩:=h
 exact⟨F,E,(FK w (ad r k) u g j).trans A,C⟩
theorem rY{gk:Nat}(hR:Rd w b s k (.map (some gk)) v0)(hO:w.ownsMap prog 9 (GO prog 3) gk 20 (jx iy 20))(Z:gk≠b)(hk:k<s.size)(hs:s.size<=4294967296)
  (hc:bw (aO s k)=true):
  Jq prog 105 #[Pt b] w (kk w b s k (.map (some gk)) v0 (if dZ (s.extract k (ae aH s k)).data.toList then 3 else 1) (ae aH s k) 0 (if dZ (s.extract k (ae aH s k)).data.toList then 0 else if 16<ae aH s k-k then 111 else 0)):=by
 have a2:=hR.alloc cU;have b0:=a2.c0;have b1:=a2.c1;have b9:=cH (f:=aH) (HG hk);obtain⟨E,hE⟩:=eX (ae aH s k);have HE:=O hE;rw[hE]at b9 ⊢;clear hE;obtain⟨T,f5⟩:=eX (s.extract k E);have b6:T.size=E-k:=by rw[<-f5,Ha];omega
 obtain⟨kd,a1⟩:∃kd:Int,(if dZ (s.extract k E).data.toList then 3 else 1)=kd:=⟨_,z⟩;obtain⟨er,V⟩:∃er:Int,(if dZ (s.extract k E).data.toList then 0 else if 16<E-k then 111 else 0)=er:=⟨_,z⟩;rw[a1,V];rw[f5]at a1 V;rw[<-b6]at V;have b8:=O a1;have b7:=O V;have HT:=O f5;have f2:=O b6;clear a1 V f5 b6;have hZ:Tk (w.alloc cU) w.1.size 0 ⟨#[]⟩ 0 (0,0):=Df _ _;have d5:=hZ.alloc (ft (ao s k));have hP:Tk ((w.alloc cU).alloc (ft (ao s k))) (w.1.size+1) 0 ⟨#[]⟩ 0 (ao s k):=by have h:Tk ((w.alloc cU).alloc (ft (ao s k))) (w.alloc cU).1.size 0 ⟨#[]⟩ 0 (ao s k):=Df _ _;rw[Ho]at h;exact h
 have X:=a2.alloc (ft (ao s k));have a4:Kp w ((w.alloc cU).alloc (ft (ao s k))) b b:=((Kp.refl w b b).alloc _).alloc _;have e3:=ef hO a4 Z Z;have f4:=hR.lt;have f3:=hO.lt;go_in;go_wp2;change Code.wp _ _ _ _ ((w.alloc cU).alloc (ft (ao s k)));clear a2 hZ hR hO b0 b1;generalize (w.alloc cU).alloc (ft (ao s k))=W0 at *;have b2:=X.c2;have b3:=X.c3;have hz:(k:Int)< (s.size:Int):=by omega
 have f1:=bI hk;let ⟨c,R⟩:=eX (aO s k)
 rw[R]at f1 hc;clear R;go_quiet (fail);rename_i nq;let ⟨K,D⟩:=eX (W0.drewN nq)
 have a6:Tk K w.1.size 0 ⟨#[]⟩ 0 (0,0):=D▸d5;have a8:Tk K (w.1.size+1) 0 ⟨#[]⟩ 0 (ao s k):=D▸hP;have e9:Rd K b s k (.map (some gk)) v0:=D▸X;have d8:Kp w K b b:=by rw[<-D];exact a4.drewN nq
 have c8:K.ownsMap prog 9 (GO prog 3) gk 20 (jx iy 20):=D▸e3;rw[D];clear D d5 hP X a4 e3 b2 b3;go_wp2_with fail;apply (dF c _).mono;rw[hc];rintro e w' ⟨rfl,rfl⟩;go_wp2_with fail;apply (rf e9 (HG hk) hs).mono;rintro e W2 ⟨rfl,a9,M⟩;rw[HE.o]at a9 ⊢;rw[HT.o];have e7:=d8.trans M;have e8:=a6.of (M.block _ a6.lt (by omega) (by omega));have G:=a8.of (M.block _ a8.lt (by omega) (by omega));have c9:=ef c8 M Z Z;clear a6 a8 e9 d8 c8 M;have d0:=G.c0;have d1:=G.c1;have e0:=G.frozen 0;have e1:=G.frozen 1;go_wp2;change Code.wp _ _ _ _ ((W2.setCell (ad (w.1.size+1) 1) (.string T)).setCell (ad (w.1.size+1) 0) (I 1));have b5:=(G.set1 T).set0 1
 have d7:=(e8.other (r:=w.1.size+1) (by omega) 1 (.string T)).other (r:=w.1.size+1) (by omega) 0 (I 1);have a7:=(a9.other (r:=w.1.size+1) (by omega) 1 (.string T)).other (r:=w.1.size+1) (by omega) 0 (I 1);have d9:=(e7.R (r:=w.1.size+1) (by omega) 1 (.string T)).R (r:=w.1.size+1) (by omega) 0 (I 1);have e4:=nb (nb c9 (r:=w.1.size+1) (by omega) 1 (.string T)) (r:=w.1.size+1) (by omega) 0 (I 1);clear G e8 a9 e7 c9 d0 d1 e0 e1;generalize (W2.setCell (ad (w.1.size+1) 1) (.string T)).setCell (ad (w.1.size+1) 0) (I 1)=Y at *;have d6:T.size<=maxLen:=by rw[f2.o];exact FU (FU (Nat.sub_le _ _) b9.2) (FU hs (by decide))
 have e6:∀n,(Instr.lookup 148 (.map (some gk)) (.string T) false).run prog (Y.drewN n)= .ok (I (dt iy T.data.toList 20)) (Y.drewN n):=fun n=>qt (W:=Y.drewN n) e4 T d6;have e2:=us T.data.toList;let ⟨cc,R⟩:=eX (dt iy T.data.toList 20)
 rw[R]at e6 e2;let ⟨q,hq⟩:=eX (dZ T.data.toList)
 rw[hq]at e2;have U:=O hq;clear R hq d6 e4;have b4:=a7.c4;have d1:=b5.c1;go_quiet (fail);rename_i nq;let ⟨C,F⟩:=eX (Y.drewN nq)
 have g:Tk C w.1.size 0 ⟨#[]⟩ 0 (0,0):=F▸d7;have H:Tk C (w.1.size+1) 1 T 0 (ao s k):=F▸b5;have a3:Rd C b s E (.map (some gk)) v0:=F▸a7;have a5:Kp w C b b:=by rw[<-F];exact d9.drewN nq
 rw[F];clear F d7 b5 a7 d9 b4 d1 e6;have d0:=H.c0;have d1:=H.c1;have d2:=H.c2;have d3:=H.c3;have d4:=H.c4;have e0:=H.frozen 0;have z0:=g.c0;have z1:=g.c1;have z2:=g.c2;have z3:=g.c3;have z4:=g.c4;have y0:=g.frozen;have fin:∀ (W:Fk) (x:Int) (v:Int),Tk W w.1.size 0 ⟨#[]⟩ 0 (0,0)->Rd W b s E (.map (some gk)) v0->Kp w W b b->x=kd->v=er->
   let W':=((((W.setCell (ad w.1.size 0) (I x)).setCell (ad w.1.size 1) (.string T)).setCell (ad w.1.size 2) (I 0)).setCell (ad w.1.size 3) (I (ao s k).1)).setCell (ad w.1.size 4) (I (ao s k).2)
   Tk W' w.1.size x T 0 ((ao s k).1,(ao s k).2)/\kk w b s k (.map (some gk)) v0 kd E 0 er (.returned (.tuple #[.agg #[I x,.string T,I 0,I (ao s k).1,I (ao s k).2],I v])) W':=by
  intro W x v h1 h2 h3 hx hv;subst hx hv;have A:b≠w.1.size:=by omega
  refine⟨h1.Es x T 0 _ _,by rw[HT.o],((((h2.other A 0 _).other A 1 _).other A 2 _).other A 3 _).other A 4 _,?_⟩;exact((((h3.R rl 0 _).R rl 1 _).R rl 2 _).R rl 3 _).R rl 4 _
 have HF:=O fin;clear fin;cases q
 .have S:(1:Int)=kd:=by have h:=b8.o;rw[U.o]at h;simpa using h
  have a0:=O S;clear S;by_cases e5:16<T.size
  .have f0:(16:Int)< (T.size:Int):=by omega
   have j:(111:Int)=er:=by have h:=b7.o;rw[U.o]at h;simpa [e5]using h
   have N:=O j;clear j;go_wp2;let ⟨J,Q⟩:=HF C 1 111 g a3 a5 a0 N
   exact fR J z z z z Q
  .have f0:¬ (16:Int)< (T.size:Int):=by omega
   have j:(0:Int)=er:=by have h:=b7.o;rw[U.o]at h;simpa [e5]using h
   have N:=O j;clear j;go_wp2;let ⟨J,Q⟩:=HF C 1 0 g a3 a5 a0 N
   exact fR J z z z z Q
 .have S:(3:Int)=kd:=by have h:=b8.o;rw[U.o]at h;simpa using h
  have j:(0:Int)=er:=by have h:=b7.o;rw[U.o]at h;simpa using h
  have a0:=O S;have N:=O j;clear S j;go_wp2;have A:b≠w.1.size+1:=by omega
  let ⟨J,Q⟩:=HF (C.setCell (ad (w.1.size+1) 0) (I 3)) 3 0 (g.other (by omega) 0 _) (a3.other A 0 _) (a5.R (by omega) 0 _) a0 N
  exact fR J z z z z Q
theorem eo(f:UInt8->Bool)(s:ByteArray)(k:Nat):(s.extract k (ae f s k)).data.toList=(s.data.toList.drop k).takeWhile f:=by rw[ByteArray.data_extract,Array.toList_extract,List.extract_eq_take_drop];have h:=List.prefix_iff_eq_take.1 (List.takeWhile_prefix (l:=s.data.toList.drop k) f);unfold ae;rw[Nat.add_sub_cancel_left];exact h.symm
theorem rB(f:UInt8->Bool)(l:List UInt8):∀c∈l.takeWhile f,f c=true:=by
 induction l with
 |nil=>intro c g;cases g
 |cons x r j=>
  intro c g;by_cases h:f x=true
  .rw[List.takeWhile_cons_of_pos h]at g;rcases List.mem_cons.1 g with rfl|g
   .exact h
   .exact j c g
  .rw[List.takeWhile_cons_of_neg h]at g;cases g
theorem nB{f:UInt8->Bool}:∀c∈ (s.extract k (ae f s k)).data.toList,f c=true:=by rw[eo];intro c g;exact rB f _ c g
theorem eY{f:UInt8->Bool}(g:k<s.size)(h:f (aO s k)=true):k<ae f s k:=by rw[<-cu g h];exact dB f s (k+1)
def iJ(s:ByteArray)(k:Nat):Bool:=!(fD (s.extract k (ae aK s k)).data.toList).2|| (decide (ae aK s k<s.size)&&bw (aO s (ae aK s k)))
theorem gc.keep{w':Fk}(h:gc w)(j:Kp w w' b b)(g:7≠b):gc w':=by
 let ⟨A,C,D,E⟩:=h
 refine⟨FJ A j.size,C,D,?_⟩;rw[<-E];unfold FI;rw[j.block 7 A g g]
theorem sF{gk:Nat}(hR:Rd w b s k (.map (some gk)) v0)(hO:w.ownsMap prog 9 (GO prog 3) gk 20 (jx iy 20))(a5:gk≠b)(hk:k<s.size)(hs:s.size<=4294967296)(f5:gc w)(g6:b≠7)
  (hc:bw (aO s k)=false)(hd:aK (aO s k)=true):
  Jq prog 105 #[Pt b] w (kk w b s k (.map (some gk)) v0 2 (ae aK s k) (if iJ s k then 0 else (fD (s.extract k (ae aK s k)).data.toList).1) (if iJ s k then 112 else 0)):=by
 have a3:=hR.alloc cU;have b0:=a3.c0;have b1:=a3.c1;have g7:=cH (f:=aK) (HG hk);let ⟨E,hE⟩:=eX (ae aK s k)
 have HE:=O hE;rw[hE]at g7 ⊢;clear hE;let ⟨T,R⟩:=eX (s.extract k E)
 have f7:T.size=E-k:=by rw[<-R,Ha];omega
 have f4:∀c∈T.data.toList,aK c=true:=by rw[<-R,<-HE.o];exact nB
 have h9:k<E:=by rw[<-HE.o];exact eY hk hd
 let ⟨nv,b4⟩:=eX ((fD T.data.toList).1)
 obtain⟨ok,b6⟩:=eX ((fD T.data.toList).2);have c8:iJ s k=(!ok|| (decide (E<s.size)&&bw (aO s E))):=by unfold iJ;rw[HE.o,R,b6]
 obtain⟨bad,e8⟩:=eX (iJ s k);rw[e8]at c8 ⊢;rw[R,b4];obtain⟨nm,b9⟩:∃nm:Int,(if bad then 0 else nv)=nm:=⟨_,z⟩;obtain⟨er,a7⟩:∃er:Int,(if bad then 112 else 0)=er:=⟨_,z⟩;rw[b9,a7];have a6:=O b9;have a2:=O a7;have HT:=O R;have e3:=O f7;have HB:=O c8;have g8:=O b4;have g3:=O b6;have g5:=O f4;clear R f7 e8 c8 b4 b6 b9 a7 f4;have hZ:Tk (w.alloc cU) w.1.size 0 ⟨#[]⟩ 0 (0,0):=Df _ _;have e7:=hZ.alloc (ft (ao s k));have hP:Tk ((w.alloc cU).alloc (ft (ao s k))) (w.1.size+1) 0 ⟨#[]⟩ 0 (ao s k):=by have h:Tk ((w.alloc cU).alloc (ft (ao s k))) (w.alloc cU).1.size 0 ⟨#[]⟩ 0 (ao s k):=Df _ _;rw[Ho]at h;exact h
 have a4:=a3.alloc (ft (ao s k));have d5:Kp w ((w.alloc cU).alloc (ft (ao s k))) b b:=((Kp.refl w b b).alloc _).alloc _;have e6:=ef hO d5 a5 a5;have h7:=hR.lt;have h5:=hO.lt;go_in;go_wp2;change Code.wp _ _ _ _ ((w.alloc cU).alloc (ft (ao s k)));clear a3 hZ hR hO b0 b1;generalize (w.alloc cU).alloc (ft (ao s k))=W0 at *;have b2:=a4.c2;have b3:=a4.c3;have hz:(k:Int)< (s.size:Int):=by omega
 have g9:=bI hk;let ⟨c,e9⟩:=eX (aO s k)
 rw[e9]at g9 hc hd;clear e9;go_quiet (fail);rename_i nq;let ⟨Z,J⟩:=eX (W0.drewN nq)
 have b8:Tk Z w.1.size 0 ⟨#[]⟩ 0 (0,0):=J▸e7;have d7:Tk Z (w.1.size+1) 0 ⟨#[]⟩ 0 (ao s k):=J▸hP;have f3:Rd Z b s k (.map (some gk)) v0:=J▸a4;have f0:Kp w Z b b:=by rw[<-J];exact d5.drewN nq
 have f1:Z.ownsMap prog 9 (GO prog 3) gk 20 (jx iy 20):=J▸e6;rw[J];clear J e7 hP a4 d5 e6 b2 b3;go_wp2_with fail;apply (dF c _).mono;rw[hc];rintro e w' ⟨rfl,rfl⟩;go_wp2_with fail;apply (fE c _).mono;rw[hd];rintro e w' ⟨rfl,rfl⟩;go_wp2_with fail;apply (uu f3 (HG hk) hs).mono;rintro e W2 ⟨rfl,a8,a1⟩;rw[HE.o]at a8 ⊢;rw[HT.o];have f9:=f0.trans a1;have f2:=b8.of (a1.block _ b8.lt (by omega) (by omega));have e1:=d7.of (a1.block _ d7.lt (by omega) (by omega));have g4:=ef f1 a1 a5 a5;clear b8 d7 f3 f0 f1 a1;have d0:=e1.c0;have d1:=e1.c1;have e0:=e1.frozen;go_wp2_with fail;change Jq _ _ _ ((W2.setCell (ad (w.1.size+1) 1) (.string T)).setCell (ad (w.1.size+1) 0) (I 2)) _;have b5:=(e1.set1 T).set0 2
 have d8:=(f2.other (r:=w.1.size+1) (by omega) 1 (.string T)).other (r:=w.1.size+1) (by omega) 0 (I 2);have f8:=(a8.other (r:=w.1.size+1) (by omega) 1 (.string T)).other (r:=w.1.size+1) (by omega) 0 (I 2);have d6:=(f9.R (r:=w.1.size+1) (by omega) 1 (.string T)).R (r:=w.1.size+1) (by omega) 0 (I 2);have e5:=f5.keep d6 (fun e=>g6 e.symm);have h6:=f5.1;clear e1 f2 a8 f9 d0 d1 e0 g4;generalize (W2.setCell (ad (w.1.size+1) 1) (.string T)).setCell (ad (w.1.size+1) 0) (I 2)=W4 at *;apply (oF T W4 (by rw[e3.o];omega) (by rw[e3.o];omega) g5 e5).mono;rw[g8.o,g3.o];rintro e W5 ⟨rfl,a0⟩;have U:=d8.of (a0.block _ d8.lt);have V:=b5.of (a0.block _ b5.lt);have H:=f8.ER a0;have X:=d6.trans (Kp.below a0)
 clear d8 b5 f8 d6 a0 e5;have b2:=H.c2;have b3:=H.c3;have fin:∀ (W:Fk) (x:Int) (v:Int),Tk W w.1.size 0 ⟨#[]⟩ 0 (0,0)->Rd W b s E (.map (some gk)) v0->Kp w W b b->x=nm->v=er->
   let W':=((((W.setCell (ad w.1.size 0) (I 2)).setCell (ad w.1.size 1) (.string T)).setCell (ad w.1.size 2) (I x)).setCell (ad w.1.size 3) (I (ao s k).1)).setCell (ad w.1.size 4) (I (ao s k).2)
   Tk W' w.1.size 2 T x ((ao s k).1,(ao s k).2)/\kk w b s k (.map (some gk)) v0 2 E nm er (.returned (.tuple #[.agg #[I 2,.string T,I x,I (ao s k).1,I (ao s k).2],I v])) W':=by
  intro W x v h1 h2 h3 hx hv;subst hx hv;have hb:b≠w.1.size:=by omega
  refine⟨h1.Es 2 T x _ _,by rw[HT.o],((((h2.other hb 0 _).other hb 1 _).other hb 2 _).other hb 3 _).other hb 4 _,?_⟩;exact((((h3.R rl 0 _).R rl 1 _).R rl 2 _).R rl 3 _).R rl 4 _
 have HF:=O fin;clear fin;have f6:b≠w.1.size+1:=by omega
 cases ok
 .have D:bad=true:=by have h:=HB.o;simpa using h
  have F:(0:Int)=nm:=by have h:=a6.o;rw[D]at h;simpa using h
  have G:(112:Int)=er:=by have h:=a2.o;rw[D]at h;simpa using h
  have M:=O F;have Q:=O G;clear F G D;go_wp2;go_quiet (fail);rename_i nq;let ⟨C,A⟩:=eX (W5.drewN nq)
  have g:Tk C w.1.size 0 ⟨#[]⟩ 0 (0,0):=A▸U;have j:Tk C (w.1.size+1) 2 T 0 (ao s k):=A▸V;have S:Rd C b s E (.map (some gk)) v0:=A▸H;have Y:Kp w C b b:=by rw[<-A];exact X.drewN nq
  rw[A];clear A U V H X b2 b3;have d0:=j.c0;have d1:=j.c1;have d2:=j.c2;have d3:=j.c3;have d4:=j.c4;have e2:=j.frozen 2;have z0:=g.c0;have z1:=g.c1;have z2:=g.c2;have z3:=g.c3;have z4:=g.c4;have y0:=g.frozen 0;have y1:=g.frozen 1;have y2:=g.frozen 2;have y3:=g.frozen 3;have y4:=g.frozen 4;go_wp2;let ⟨K,N⟩:=HF C 0 112 g S Y M Q
  exact fR K z z z z N
 .by_cases a9:E<s.size
  .have h8:(E:Int)< (s.size:Int):=by omega
   have h0:=bI a9;let ⟨c2,c9⟩:=eX (aO s E)
   rw[c9]at h0;let ⟨q2,b7⟩:=eX (bw c2)
   have e4:bad=q2:=by have h:=HB.o;rw[c9,b7,eP a9]at h;simpa using h
   have d9:=O e4;have cl:∀W,Jq prog 139 #[.int .u8 (c2.toNat:Int)] W fun e w'=>e= .returned (.bool q2)/\w'=W:=fun W=> (dF c2 W).mono fun e w' h=>⟨by rw[h.1,b7],h.2.symm⟩;clear c9 b7 e4;go_wp2;go_quiet ((go_at_call 139;exact Calls.quiet_of_same (cl _)));rename_i nq;let ⟨C,A⟩:=eX (W5.drewN nq)
   have g:Tk C w.1.size 0 ⟨#[]⟩ 0 (0,0):=A▸U;have j:Tk C (w.1.size+1) 2 T 0 (ao s k):=A▸V;have S:Rd C b s E (.map (some gk)) v0:=A▸H;have Y:Kp w C b b:=by rw[<-A];exact X.drewN nq
   rw[A];clear A U V H X b2 b3;clear cl;cases q2
   .have D:bad=false:=by exact d9
    have F:(nv:Int)=nm:=by have h:=a6.o;rw[D]at h;simpa using h
    have G:(0:Int)=er:=by have h:=a2.o;rw[D]at h;simpa using h
    have M:=O F;have Q:=O G;clear F G D;have d0:=j.c0;have d1:=j.c1;have d2:=j.c2;have d3:=j.c3;have d4:=j.c4;have e2:=j.frozen 2;have z0:=g.c0;have z1:=g.c1;have z2:=g.c2;have z3:=g.c3;have z4:=g.c4;have y0:=g.frozen 0;have y1:=g.frozen 1;have y2:=g.frozen 2;have y3:=g.frozen 3;have y4:=g.frozen 4;go_wp2;let ⟨K,N⟩:=HF (C.setCell (ad (w.1.size+1) 2) (I nv)) nv 0 (g.other (by omega) 2 _) (S.other f6 2 _) (Y.R (by omega) 2 _) M Q
    exact fR K z z z z N
   .have D:bad=true:=by exact d9
    have F:(0:Int)=nm:=by have h:=a6.o;rw[D]at h;simpa using h
    have G:(112:Int)=er:=by have h:=a2.o;rw[D]at h;simpa using h
    have M:=O F;have Q:=O G;clear F G D;have d0:=j.c0;have d1:=j.c1;have d2:=j.c2;have d3:=j.c3;have d4:=j.c4;have e2:=j.frozen 2;have z0:=g.c0;have z1:=g.c1;have z2:=g.c2;have z3:=g.c3;have z4:=g.c4;have y0:=g.frozen 0;have y1:=g.frozen 1;have y2:=g.frozen 2;have y3:=g.frozen 3;have y4:=g.frozen 4;go_wp2;let ⟨K,N⟩:=HF C 0 112 g S Y M Q
    exact fR K z z z z N
  .have D:bad=false:=by have h:=HB.o;rw[dv a9]at h;simpa using h
   have F:(nv:Int)=nm:=by have h:=a6.o;rw[D]at h;simpa using h
   have G:(0:Int)=er:=by have h:=a2.o;rw[D]at h;simpa using h
   have M:=O F;have Q:=O G;clear F G D;have h4:=dv (by omega);go_wp2;go_quiet (fail);rename_i nq;let ⟨C,A⟩:=eX (W5.drewN nq)
   have g:Tk C w.1.size 0 ⟨#[]⟩ 0 (0,0):=A▸U;have j:Tk C (w.1.size+1) 2 T 0 (ao s k):=A▸V;have S:Rd C b s E (.map (some gk)) v0:=A▸H;have Y:Kp w C b b:=by rw[<-A];exact X.drewN nq
   rw[A];clear A U V H X b2 b3;have d0:=j.c0;have d1:=j.c1;have d2:=j.c2;have d3:=j.c3;have d4:=j.c4;have e2:=j.frozen 2;have z0:=g.c0;have z1:=g.c1;have z2:=g.c2;have z3:=g.c3;have z4:=g.c4;have y0:=g.frozen;go_wp2;let ⟨K,N⟩:=HF (C.setCell (ad (w.1.size+1) 2) (I nv)) nv 0 (g.other (by omega) 2 _) (S.other f6 2 _) (Y.R (by omega) 2 _) M Q
   exact fR K z z z z N
theorem jZ:IH ⟨#[]⟩=[]:=by unfold IH ByteArray.toList.loop;rfl
theorem tm(S:Rd w b s k v0 (.map (some j)))(V:w.ownsMap prog 9 (GO prog 3) j 20 (jx kz 20))(a1:j≠b)(hk:k<s.size)(hs:s.size<=4294967296)
  (hc:bw (aO s k)=false)(hd:aK (aO s k)=false):
  Jq prog 105 #[Pt b] w (kk w b s k v0 (.map (some j)) 4 (k+dl s k (min 2 (s.size-k))) 0 (if dl s k (min 2 (s.size-k))=0 then 110 else 0)):=by
 have Q:=S.alloc cU;have b0:=Q.c0;have b1:=Q.c1;let ⟨n,H⟩:=eX (dl s k (min 2 (s.size-k)))
 rw[H];have e2:k+n<=s.size:=by have h:=mE s k (min 2 (s.size-k));rw[H]at h;omega
 have d6:=O H;clear H;let ⟨T,hT⟩:=eX (s.extract k (k+n))
 have b7:T.size=n:=by rw[<-hT,Ha];omega
 obtain⟨er,a2⟩:∃er:Int,(if n=0 then 110 else 0)=er:=⟨_,z⟩;rw[a2];have b8:=O a2;have HT:=O hT;have a9:=O b7;clear a2 hT b7;have hZ:Tk (w.alloc cU) w.1.size 0 ⟨#[]⟩ 0 (0,0):=Df _ _;have a4:=hZ.alloc (ft (ao s k));have hP:Tk ((w.alloc cU).alloc (ft (ao s k))) (w.1.size+1) 0 ⟨#[]⟩ 0 (ao s k):=by have h:Tk ((w.alloc cU).alloc (ft (ao s k))) (w.alloc cU).1.size 0 ⟨#[]⟩ 0 (ao s k):=Df _ _;rw[Ho]at h;exact h
 have G:=Q.alloc (ft (ao s k));have R:Kp w ((w.alloc cU).alloc (ft (ao s k))) b b:=((Kp.refl w b b).alloc _).alloc _;have a8:=ef V R a1 a1;have d9:=S.lt;have d8:=V.lt;go_in;go_wp2;change Code.wp _ _ _ _ ((w.alloc cU).alloc (ft (ao s k)));clear Q hZ S V b0 b1;generalize (w.alloc cU).alloc (ft (ao s k))=W0 at *;have b2:=G.c2;have b3:=G.c3;have hz:(k:Int)< (s.size:Int):=by omega
 have d5:=bI hk;let ⟨c,b6⟩:=eX (aO s k)
 rw[b6]at d5 hc hd;clear b6;go_quiet (fail);rename_i nq;let ⟨E,C⟩:=eX (W0.drewN nq)
 have X:Tk E w.1.size 0 ⟨#[]⟩ 0 (0,0):=C▸a4;have a0:Tk E (w.1.size+1) 0 ⟨#[]⟩ 0 (ao s k):=C▸hP;have c8:Rd E b s k v0 (.map (some j)):=C▸G;have a5:Kp w E b b:=by rw[<-C];exact R.drewN nq
 have a3:E.ownsMap prog 9 (GO prog 3) j 20 (jx kz 20):=C▸a8;rw[C];clear C a4 hP G R a8 b2 b3;go_wp2_with fail;apply (dF c _).mono;rw[hc];rintro e w' ⟨rfl,rfl⟩;go_wp2_with fail;apply (fE c _).mono;rw[hd];rintro e w' ⟨rfl,rfl⟩;go_wp2_with fail;apply (sg c8 a3 a1 hk hs).mono;rintro e W2 ⟨Y,a7,rfl,b5,M⟩;rw[d6.o]at a7;subst a7;rw[HT.o];have b4:=a5.trans M;have g:=X.of (M.block _ X.lt (by omega) (by omega));have A:=a0.of (M.block _ a0.lt (by omega) (by omega));clear X a0 c8 a5 a3 M;have d0:=A.c0;have d1:=A.c1;have d2:=A.c2;have d3:=A.c3;have d4:=A.c4;have e0:=A.frozen;have z0:=g.c0;have z1:=g.c1;have z2:=g.c2;have z3:=g.c3;have z4:=g.c4;have y0:=g.frozen
 have fin:∀ (W:Fk) (v:Int),Tk W w.1.size 0 ⟨#[]⟩ 0 (0,0)->Rd W b s (k+Y) v0 (.map (some j))->Kp w W b b->v=er->
   let W':=((((W.setCell (ad w.1.size 0) (I 4)).setCell (ad w.1.size 1) (.string T)).setCell (ad w.1.size 2) (I 0)).setCell (ad w.1.size 3) (I (ao s k).1)).setCell (ad w.1.size 4) (I (ao s k).2)
   Tk W' w.1.size 4 T 0 ((ao s k).1,(ao s k).2)/\kk w b s k v0 (.map (some j)) 4 (k+Y) 0 er (.returned (.tuple #[.agg #[I 4,.string T,I 0,I (ao s k).1,I (ao s k).2],I v])) W':=by
  intro W v h1 J h3 hv;subst hv;have D:b≠w.1.size:=by omega
  refine⟨h1.Es 4 T 0 _ _,by rw[HT.o],((((J.other D 0 _).other D 1 _).other D 2 _).other D 3 _).other D 4 _,?_⟩;exact((((h3.R rl 0 _).R rl 1 _).R rl 2 _).R rl 3 _).R rl 4 _
 have HF:=O fin;clear fin;have N:b≠w.1.size+1:=by omega
 let ⟨q,hq⟩:=eX ((T.toList==([]:List UInt8)))
 by_cases K:Y=0
 .have F:(110:Int)=er:=by have h:=b8.o;rw[aD K]at h;exact h
  have Z:=O F;have c9:T=⟨#[]⟩:=by apply HP;exact Array.eq_empty_of_size_eq_zero (by have h:=a9.o;rw[K]at h;exact h)
  subst c9;clear F hq;go_wp2;let ⟨U,g2⟩:=HF ((W2.setCell (ad (w.1.size+1) 1) (.string ⟨#[]⟩)).setCell (ad (w.1.size+1) 0) (I 4)) 110 ((g.other (by omega) 1 _).other (by omega) 0 _) ((b5.other N 1 _).other N 0 _) ((b4.R (by omega) 1 _).R (by omega) 0 _) Z
  exact fR U z z z z g2
 .have F:(0:Int)=er:=by have h:=b8.o;rw[am K]at h;exact h
  have Z:=O F;have b9:(T.toList==IH ⟨#[]⟩)=false:=by rw[Lib.bytes_beq_false_iff];intro h;have J:=a9.o;rw[h]at J;exact K J.symm
  have a6:¬T.toList=[]:=by intro h;rw[beq_eq_false_iff_ne]at b9;apply b9;rw[h,jZ]
  have d7:T.toList.isEmpty=false:=by
   cases hl:T.toList with
   |nil=>exact absurd hl a6
   |cons a l=>rfl
  have e3:(T.toList==[])=false:=by
   cases hl:T.toList with
   |nil=>exact absurd hl a6
   |cons a l=>rfl
  clear F hq;go_wp2;let ⟨U,g2⟩:=HF ((W2.setCell (ad (w.1.size+1) 1) (.string T)).setCell (ad (w.1.size+1) 0) (I 4)) 0 ((g.other (by omega) 1 _).other (by omega) 0 _) ((b5.other N 1 _).other N 0 _) ((b4.R (by omega) 1 _).R (by omega) 0 _) Z
  exact fR U z z z z g2
def dL(s:ByteArray)(k:Nat):Int:=if bw (aO s k) then (if dZ (s.extract k (ae aH s k)).data.toList then 3 else 1) else if aK (aO s k) then 2 else 4
def du(s:ByteArray)(k:Nat):Nat:=if bw (aO s k) then ae aH s k else if aK (aO s k) then ae aK s k else k+dl s k (min 2 (s.size-k))
def hI(s:ByteArray)(k:Nat):Int:=if bw (aO s k) then 0 else if aK (aO s k) then (if iJ s k then 0 else (fD (s.extract k (ae aK s k)).data.toList).1) else 0
def dj(s:ByteArray)(k:Nat):Int:=
 if bw (aO s k) then (if dZ (s.extract k (ae aH s k)).data.toList then 0 else if 16<ae aH s k-k then 111 else 0)
 else if aK (aO s k) then (if iJ s k then 112 else 0) else (if dl s k (min 2 (s.size-k))=0 then 110 else 0)
theorem tY{gk:Nat}(C:Rd w b s k (.map (some gk)) (.map (some j)))(F:w.ownsMap prog 9 (GO prog 3) gk 20 (jx iy 20))(K:w.ownsMap prog 9 (GO prog 3) j 20 (jx kz 20))
  (E:gk≠b)(G:j≠b)(g:k<s.size)(D:s.size<=4294967296)(H:gc w)(J:b≠7):
  Jq prog 105 #[Pt b] w (kk w b s k (.map (some gk)) (.map (some j)) (dL s k) (du s k) (hI s k) (dj s k)):=by
 unfold dL du hI dj;cases A:bw (aO s k) with
 |true=>exact rY C F E g D A
 |false=>
  cases hd:aK (aO s k) with
  |true=>exact sF C F E g D H J A hd
  |false=>exact tm C K G g D A hd
theorem iq(g:k<s.size):du s k<=s.size:=by
 unfold du;split
 .exact(cH (HG g)).2
 .split
  .exact(cH (HG g)).2
  .have h:=mE s k (min 2 (s.size-k));omega
theorem hf(j:k<s.size)(g:dj s k=0):k<du s k:=by
 unfold dj at g;unfold du;cases w:bw (aO s k) with
 |true=>exact eY j (by unfold aH;rw[w];rfl)
 |false=>
  cases hd:aK (aO s k) with
  |true=>exact eY j hd
  |false=>
   rw[w,hd]at g;simp only[Bool.false_eq_true,if_false]at g ⊢;split at g
   .cases g
   .omega
section
variable (T:List Wd)
theorem wm(k n:Int)(s:ByteArray)(sl:Int)(lo:Bool)(o:Int):(Ex.mk k n s sl lo o []).depth=1:=by simp[Ex.depth,Ex.Dl]
theorem rK(k n:Int)(s:ByteArray)(sl:Int)(lo:Bool)(o:Int)(x:Ex):(Ex.mk k n s sl lo o [x]).depth=x.depth+1:=by simp[Ex.depth,Ex.Dl]
theorem As(k n:Int)(s:ByteArray)(sl:Int)(lo:Bool)(o:Int)(x y:Ex):(Ex.mk k n s sl lo o [x,y]).depth=max x.depth y.depth+1:=by simp[Ex.depth,Ex.Dl]
end
structure Th where
 name:ByteArray
 locals:Nat
 body:List St
instance:Inhabited Th:=⟨⟨aq,0,[]⟩⟩
structure Pg where
 vars:List Int
 CW:List Int
 CT:Nat
 conds:Nat
 CX:List Int
 threads:List Th
 main:Nat
 stmts:Nat
 nv:List ByteArray
 na:List ByteArray
 nm:List ByteArray
 nc:List ByteArray
 nh:List ByteArray
def fz:Pg:=⟨[],[],0,0,[],[],0,0,[],[],[],[],[]⟩
structure Nm where
 text:ByteArray
 kind:Nat
 slot:Nat
abbrev fT:=(Int×Int)×Int
def ex(L:List Nm)(s:ByteArray):Option Nm:=L.find? fun x=>decide (x.text=s)
def hs(L:List Nm)(s:ByteArray)(kind:Nat)(loc:Bool)(p:Int×Int):Except fT Nm:=
 match ex L s with
 |none=> .error (p,131)
 |some x=>if x.kind≠kind/\¬ (loc=true/\x.kind=0) then .error (p,132) else .ok x
mutual
def hM (L:List Nm) (p:Int×Int):Ex->Except fT Ex
 | .mk k n s sl lo o args=>
  match (if k=2 then (hs L s 1 true p).map fun x=> ((x.slot:Int),decide (x.kind=0)) else if k=3 then (hs L s 2 false p).map fun x=> ((x.slot:Int),lo) else .ok (sl,lo)) with
  | .error e=> .error e
  | .ok (sl',lo')=> (match fN L p args with| .error e=> .error e| .ok l=> .ok (.mk k n s sl' lo' o l))
def fN (L:List Nm) (p:Int×Int):List Ex->Except fT (List Ex)
 | []=> .ok []
 |x::r=>match hM L p x with
  | .error e=> .error e
  | .ok y=> (match fN L p r with| .error e=> .error e| .ok l=> .ok (y::l))
end
def nY(k:Int):Option (Nat×Bool):=if k=2 then some (1,true) else if k=3 then some (2,false) else if k=6∨k=7 then some (3,false) else if k=8∨k=9∨k=10 then some (4,false) else if k=11∨k=12 then some (5,false) else if k=13 then some (6,false) else none
def kJ(k:Int):Option (Nat×Bool):=if k=8 then some (3,false) else if k=12 then some (1,true) else none
def dW(L:List Nm)(loc:Nat)(p:Int×Int)(k:Int)(s t:ByteArray)(sl ot:Int)(lo:Bool):Except fT (Int×Int×Bool):=
 if k=1 then (if (ex L s).isSome then .error (p,130) else if loc=32 then .error (p,134) else .ok ((loc:Int),ot,true))
 else match nY k with
 |none=> .ok (sl,ot,lo)
 |some (q,b)=>match hs L s q b p with
  | .error e=> .error e
  | .ok x=>match kJ k with
   |none=> .ok ((x.slot:Int),ot,if b then decide (x.kind=0) else lo)
   |some (q2,b2)=>match hs L t q2 b2 p with
    | .error e=> .error e
    | .ok y=> .ok ((x.slot:Int),(y.slot:Int),if b2 then decide (y.kind=0) else if b then decide (x.kind=0) else lo)
mutual
def ly (L:List Nm) (loc:Nat) (n mo:Nat):St->Except fT (St×Nat×Nat)
 | .mk k l c s t x y body els _ sl ot lo=>
  if n=512 then .error ((l,c),134) else
  match hM L (l,c) y with
  | .error e=> .error e
  | .ok y'=>match hM L (l,c) x with
   | .error e=> .error e
   | .ok x'=>match dW L loc (l,c) k s t sl ot lo with
    | .error e=> .error e
    | .ok (sl',ot',lo')=>match cb L loc (n+1) mo body with
     | .error e=> .error e
     | .ok (body',n2,mo2)=>match cb L loc n2 mo2 els with
      | .error e=> .error e
      | .ok (els',n3,mo3)=> .ok (.mk k l c s t x' y' body' els' (n:Int) sl' ot' lo',n3,mo3)
def cb (L:List Nm) (loc:Nat) (n mo:Nat):List St->Except fT (List St×Nat×Nat)
 | []=> .ok ([],n,mo)
 |s::r=>match ly L loc n mo s with
  | .error e=> .error e
  | .ok (s',n2,mo2)=>
   (match (match s with
     | .mk k _ _ nm _ _ _ _ _ _ _ _ _=>if k=1 then cb (L++[Nm.mk nm 0 loc]) (loc+1) n2 (max mo2 (loc+1)) r else cb L loc n2 mo2 r) with
   | .error e=> .error e
   | .ok (r',n3,mo3)=> .ok (s'::r',n3,mo3))
end
def gl(P:Pg)(L:List Nm)(cells:Int)(i:Nat)(d:De):Except fT (Pg×List Nm×Int):=
 let p:=(d.line,d.Dm)
 if (ex L d.name).isSome then .error (p,130) else
 match (show Except fT (Pg×Nat×Int) from if d.kind=1 then .ok ({P with vars:=P.vars++[d.num],nv:=P.nv++[d.name]},P.vars.length,cells)
  else if d.kind=2 then (if d.num<1∨256<d.num∨256<cells+d.num then .error (p,134) else .ok ({P with CW:=P.CW++[d.num],na:=P.na++[d.name]},P.CW.length,cells+d.num))
  else if d.kind=3 then .ok ({P with CT:=P.CT+1,nm:=P.nm++[d.name]},P.CT,cells)
  else if d.kind=4 then .ok ({P with conds:=P.conds+1,nc:=P.nc++[d.name]},P.conds,cells)
  else if d.kind=5 then (if d.num<1∨16<d.num then .error (p,134) else .ok ({P with CX:=P.CX++[d.num],nh:=P.nh++[d.name]},P.CX.length,cells))
  else .ok ({P with threads:=P.threads++[Th.mk d.name 0 []]},P.threads.length,cells)) with
 | .error e=> .error e
 | .ok (P',sl,cells')=>if 64<=i then .error (p,134) else .ok (P',L++[Nm.mk d.name d.kind.toNat sl],cells')
def jr(P:Pg)(L:List Nm)(cells:Int):Nat->List De->Except fT (Pg×List Nm)
 |_,[]=> .ok (P,L)
 |i,d::r=>match gl P L cells i d with
  | .error e=> .error e
  | .ok (P',L',cells')=>jr P' L' cells' (i+1) r
def gS(L:List Nm):Nat->List De->Except fT (List (List St×Nat)×Nat)
 |n,[]=> .ok ([],n)
 |n,d::r=>if d.kind=6 then (match cb L 0 n 0 d.body with
   | .error e=> .error e
   | .ok (b,n2,mo)=>match gS L n2 r with
    | .error e=> .error e
    | .ok (l,n3)=> .ok ((b,mo)::l,n3))
  else gS L n r
def df:List Th->List (List St×Nat)->List Th
 |t::r,(b,mo)::q=>⟨t.name,mo,b⟩::df r q
 |l,_=>l
def fh:ByteArray:=⟨#[109,97,105,110]⟩
def cW(l:List De):Pg× (Int×Int)×Int:=
 match jr fz [] 0 0 l with
 | .error e=> (fz,e.1,e.2)
 | .ok (P,L)=>match ex L fh with
  |none=> (fz,(0,0),133)
  |some x=>if x.kind≠6 then (fz,(0,0),133) else match gS L 0 l with
   | .error e=> (fz,e.1,e.2)
   | .ok (bs,n)=> ({P with main:=x.slot,threads:=df P.threads bs,stmts:=n},(0,0),0)
def ah(s:ByteArray):Bool:=decide (0<s.size)&& (decide (s.size<=16)&& (bw (aO s 0)&& (s.data.toList.all aH&&!dZ s.data.toList)))
theorem eq(s:ByteArray)(w:Fk)(hs:s.size<=9223372036854775807):Jq prog 114 #[.string s] w fun e w'=>e= .returned (.bool (ah s))/\bL w w':=by
 by_cases g:s.size=0
 .have a1:s=⟨#[]⟩:=by apply HP;exact Array.eq_empty_of_size_eq_zero g
  subst a1;rw[show ah ⟨#[]⟩=false from z];clear g hs;go_in;go_wp2;go_ret;exact⟨z,FB _ _⟩
 .have E:¬s.toList=[]:=by
   intro h;apply g;have Z:(s.toList==IH ⟨#[]⟩)=true:=by rw[h,jZ];rfl
   rw[Lib.bytes_beq_iff]at Z;rw[Z];rfl
  have a2:s.toList.isEmpty=false:=by
   cases M:s.toList with
   |nil=>exact absurd M E
   |cons a l=>rfl
  have a0:(s.toList==[])=false:=by
   cases M:s.toList with
   |nil=>exact absurd M E
   |cons a l=>rfl
  have A:0<s.size:=by omega
  by_cases C:s.size<=16
  .have a3:¬ (16:Int)< (s.size:Int):=by omega
   have a5:(0:Int)< (s.size:Int):=by omega
   have S:=bI A;let ⟨c,G⟩:=eX (aO s 0)
   rw[G]at S;let ⟨q,J⟩:=eX (bw c)
   let ⟨R,j⟩:=eX (ah s)
   rw[j];have U:R=(q&& (s.data.toList.all aH&&!dZ s.data.toList)):=by rw[<-j];unfold ah;rw[eP A,eP C,G,J];rfl
   have Q:=O U;have cl:=dF c w;rw[J]at cl;have H0:=O g;clear j U G J g;go_in;go_wp2_with fail;apply cl.mono;rintro e w' ⟨rfl,rfl⟩;cases q
   .obtain rfl:R=false:=Q;go_wp2;go_ret;exact⟨z,FB _ _⟩
   .clear cl S E a2 a0;go_wp2;go_loopw [19] (fun i wr=>∃k:Nat,k<=s.size/\i=I k/\w=wr/\Hid (((s.data.toList.drop k).all aH&&!dZ s.data.toList)=R)) (fun i _=>s.size- (intOf i).toNat);case atStart=>exact⟨0,by omega,z,z,O (by rw[Q.o];rfl)⟩
    case round=>
     obtain⟨k,hk,rfl,rfl,Y⟩:=hrel;by_cases V:k<s.size
     .have hz:(k:Int)< (s.size:Int):=by omega
      have a4:=bI V;let ⟨d,hd⟩:=eX (aO s k)
      have N:=dp V;rw[hd]at a4 N;let ⟨X,K⟩:=eX (bw d)
      let ⟨W,D⟩:=eX (aK d)
      have c1:=dF d w;have c2:=fE d w;rw[K]at c1;rw[D]at c2;have a6:(((X||W)&& (s.data.toList.drop (k+1)).all aH)&&!dZ s.data.toList)=R:=by rw[<-Y.o,N,List.all_cons];unfold aH;rw[K,D]
      have F:=O a6;clear K D hd N a6;go_wp2_with fail;apply c1.mono;rintro e w' ⟨rfl,rfl⟩;cases X
      .go_wp2_with fail;apply c2.mono;rintro e w' ⟨rfl,rfl⟩;cases W
       .obtain rfl:R=false:=by rw[<-F.o];rfl
        go_wp2;go_ret;exact⟨z,FB _ _⟩
       .have H:=O (show ((s.data.toList.drop (k+1)).all aH&&!dZ s.data.toList)=R by rw[<-F.o];rfl);go_wp2;go_roundw;case rel=>exact⟨k+1,by omega,by go_num,trivial,H⟩
        case measure=>simp[intOf];omega
      .have H:=O (show ((s.data.toList.drop (k+1)).all aH&&!dZ s.data.toList)=R by rw[<-F.o];rfl);go_wp2;go_roundw;case rel=>exact⟨k+1,by omega,by go_num,trivial,H⟩
       case measure=>simp[intOf];omega
     .obtain rfl:k=s.size:=by omega
      have j:R=!dZ s.data.toList:=by rw[<-Y.o,List.drop_eq_nil_of_le (by rw[ci];exact Nat.le_refl _)];rfl
      subst j;go_wp2_with fail;apply (oo s w (by omega)).mono;rintro e w' ⟨rfl,hb⟩;go_wp2;go_ret;exact⟨z,hb⟩
  .have a3:(16:Int)< (s.size:Int):=by omega
   rw[show ah s=false by unfold ah;rw[eP A,dv C];rfl];clear g C A;go_in;go_wp2;go_ret;exact⟨z,FB _ _⟩
theorem bd{L:List Nm}{lo:Bool}{p:Int×Int}{e:fT}(h:hs L s k lo p= .error e):e.2≠2:=by
 unfold hs at h;split at h
 .cases h;simp
 .split at h
  .cases h;simp
  .cases h
mutual
theorem bA {L:List Nm} {p:Int×Int}:∀ (x:Ex) {e:fT},hM L p x= .error e->e.2≠2
 | .mk k n s sl lo o args,e,h=>by
  unfold hM at h
  split at h
  .rename_i q hq
   cases h
   split at hq
   .cases hf:hs L s 1 true p with
    |error e2=>rw[hf]at hq;cases hq;exact bd hf
    |ok y=>rw[hf]at hq;cases hq
   .split at hq
    .cases hf:hs L s 2 false p with
     |error e2=>rw[hf]at hq;cases hq;exact bd hf
     |ok y=>rw[hf]at hq;cases hq
    .cases hq
  .split at h
   .rename_i q hq
    cases h
    exact ce args hq
   .cases h
theorem ce {L:List Nm} {p:Int×Int}:∀ (l:List Ex) {e:fT},fN L p l= .error e->e.2≠2
 | [],e,h=>by unfold fN at h;cases h
 |x::r,e,h=>by
  unfold fN at h
  split at h
  .rename_i q hq
   cases h
   exact bA x hq
  .split at h
   .rename_i q hq
    cases h
    exact ce r hq
   .cases h
end
theorem ev{L:List Nm}{loc:Nat}{p:Int×Int}{k:Int}{sl ot:Int}{lo:Bool}{e:fT}(h:dW L loc p k s t sl ot lo= .error e):e.2≠2:=by
 unfold dW at h;split at h
 .split at h
  .cases h;simp
  .split at h
   .cases h;simp
   .cases h
 .split at h
  .cases h
  .split at h
   .rename_i q g;cases h;exact bd g
   .split at h
    .cases h
    .split at h
     .rename_i q g;cases h;exact bd g
     .cases h
mutual
theorem gt {L:List Nm} {loc n mo:Nat}:∀ (s:St) {e:fT},ly L loc n mo s= .error e->e.2≠2
 | .mk k l c s t x y body els id sl ot lo,e,h=>by
  unfold ly at h
  split at h
  .cases h;simp
  .split at h
   .rename_i q hq
    cases h
    exact bA _ hq
   .split at h
    .rename_i q hq
     cases h
     exact bA _ hq
    .split at h
     .rename_i q hq
      cases h
      exact ev hq
     .split at h
      .rename_i q hq
       cases h
       exact av body hq
      .split at h
       .rename_i q hq
        cases h
        exact av els hq
       .cases h
theorem av {L:List Nm} {loc n mo:Nat}:∀ (l:List St) {e:fT},cb L loc n mo l= .error e->e.2≠2
 | [],e,h=>by unfold cb at h;cases h
 | .mk k l c s t x y body els id sl ot lo::r,e,h=>by
  unfold cb at h
  split at h
  .rename_i q hq
   cases h
   exact gt _ hq
  .dsimp only at h
   split at h
   .rename_i q hq
    cases h
    split at hq
    .exact av r hq
    .exact av r hq
   .cases h
end
theorem fc{P:Pg}{L:List Nm}{cells:Int}{d:De}{e:fT}(h:gl P L cells i d= .error e):e.2≠2:=by
 unfold gl at h;dsimp only at h;split at h
 .cases h;simp
 .split at h
  .rename_i q g;cases h;repeat' split at g
   all_goals first| (cases g;done)| (cases g;simp)
  .split at h
   .cases h;simp
   .cases h
theorem cs:∀ {P:Pg} {L:List Nm} {cells:Int} {i:Nat} (l:List De) {e:fT},jr P L cells i l= .error e->e.2≠2
 |_,_,_,_,[],e,h=>by unfold jr at h;cases h
 |P,L,cells,i,d::r,e,h=>by
  unfold jr at h
  split at h
  .rename_i q g
   cases h
   exact fc g
  .exact cs r h
theorem bv{L:List Nm}:∀ {n:Nat} (l:List De) {e:fT},gS L n l= .error e->e.2≠2
 |_,[],e,h=>by unfold gS at h;cases h
 |n,d::r,e,h=>by
  unfold gS at h
  split at h
  .split at h
   .rename_i q g
    cases h
    exact av _ g
   .split at h
    .rename_i q g
     cases h
     exact bv r g
    .cases h
  .exact bv r h
theorem ec(l:List De):(cW l).2.2≠2:=by
 unfold cW;split
 .rename_i e g;exact cs l g
 .split
  .simp
  .split
   .simp
   .split
    .rename_i e g;exact bv l g
    .simp
end Go.Proofs.YtgppcdfgdaggjaaGreatDoor
