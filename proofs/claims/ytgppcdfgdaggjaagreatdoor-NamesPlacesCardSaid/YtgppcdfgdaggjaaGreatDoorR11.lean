/- Texts laid together. No condition but what each law says. -/
import Derived.Test.YtgppcdfgdaggjaaGreatDoorR10
import Derived.Test.YtgppcdfgdaggjaaGreatDoorR09
import Derived.Test.YtgppcdfgdaggjaaGreatDoorR02
import Derived.Deep.MidRow
import Derived.Laws.StructEq
set_option maxRecDepth 100000
set_option maxHeartbeats 8000000
namespace Go.Proofs.YtgppcdfgdaggjaaGreatDoor
open Go.RowKit Go.Maps
variable {W w w1 w2:World}{b g i j k n:Nat}{s t:ByteArray}{v v0 v1:Value}{A:Act}{a:Option Addr}
theorem Kp.alloc{w':World}{a:Nat}(h:Kp w w' a b)(o:Obj):Kp w (w'.alloc o) a b:=
 h.trans (Kp.below ((Below.refl _ w').alloc rl o))
theorem Kp.setNew{w':World}{a r:Nat}(h:Kp w w' a b)(D:w.1.size<=r)(k:Nat)(u:Value):Kp w (w'.setCell ⟨r,k,none⟩ u) a b:=
 ⟨h.os,h.tape,h.output,by simpa [World.setCell]using h.size,fun j C A g=> (Below.heap_setCell w' ⟨r,k,none⟩ u j (by show j≠r;omega)).trans (h.block j C A g)⟩
theorem Kp.drewN{w':World}{a:Nat}(h:Kp w w' a b)(n:Nat):Kp w (w'.drewN n) a b:=⟨h.os,h.tape,h.output,h.size,h.block⟩
def Tk(w:World)(b:Nat)(kind:Int)(t:ByteArray)(num:Int)(p:Int×Int):Prop:=w.1[b]? =some (.cells #[.int .i64 kind,.string t,.int .i64 num,.int .i64 p.1,.int .i64 p.2] 142 (0,0))
section
variable {w:World} {b:Nat} {kind:Int} {t:ByteArray} {num:Int} {p:Int×Int}
theorem Tk.lt(h:Tk w b kind t num p):b<w.1.size:=(Array.getElem?_eq_some_iff.1 h).1
theorem Tk.c0(h:Tk w b kind t num p):w.cell? ⟨b,0,none⟩=some (I kind):=by unfold Tk at h;simp[World.cell?,h]
theorem Tk.c1(h:Tk w b kind t num p):w.cell? ⟨b,1,none⟩=some (.string t):=by unfold Tk at h;simp[World.cell?,h]
theorem Tk.c2(h:Tk w b kind t num p):w.cell? ⟨b,2,none⟩=some (I num):=by unfold Tk at h;simp[World.cell?,h]
theorem Tk.c3(h:Tk w b kind t num p):w.cell? ⟨b,3,none⟩=some (I p.1):=by unfold Tk at h;simp[World.cell?,h]
theorem Tk.c4(h:Tk w b kind t num p):w.cell? ⟨b,4,none⟩=some (I p.2):=by unfold Tk at h;simp[World.cell?,h]
theorem Tk.frozen(h:Tk w b kind t num p)(k:Nat):w.frozen? ⟨b,k,none⟩=false:=by unfold Tk at h;simp[World.frozen?,h]
theorem Tk.of{w':World}(h:Tk w b kind t num p)(g:w'.1[b]? =w.1[b]?):Tk w' b kind t num p:=g.trans h
theorem Tk.drewN(h:Tk w b kind t num p)(n:Nat):Tk (w.drewN n) b kind t num p:=h
theorem Tk.alloc(h:Tk w b kind t num p)(o:Obj):Tk (w.alloc o) b kind t num p:=h.of ((World.grownBy_alloc w o none).block b h.lt (by simp))
theorem Tk.other(h:Tk w b kind t num p){r:Nat}(g:b≠r)(k:Nat)(u:Value):Tk (w.setCell ⟨r,k,none⟩ u) b kind t num p:=h.of (Below.heap_setCell w ⟨r,k,none⟩ u b g)
theorem Tk.set0(h:Tk w b kind t num p)(x:Int):Tk (w.setCell ⟨b,0,none⟩ (I x)) b x t num p:=by have g:=heap_set (j:=0) h (I x);unfold Tk;rw[g];simp
theorem Tk.set1(h:Tk w b kind t num p)(x:ByteArray):Tk (w.setCell ⟨b,1,none⟩ (.string x)) b kind x num p:=by have g:=heap_set (j:=1) h (.string x);unfold Tk;rw[g];simp
theorem Tk.set2(h:Tk w b kind t num p)(x:Int):Tk (w.setCell ⟨b,2,none⟩ (I x)) b kind t x p:=by have g:=heap_set (j:=2) h (I x);unfold Tk;rw[g];simp
theorem Tk.set34(h:Tk w b kind t num p)(x y:Int):Tk ((w.setCell ⟨b,3,none⟩ (I x)).setCell ⟨b,4,none⟩ (I y)) b kind t num (x,y):=by have g:=heap_set (j:=4) (heap_set (j:=3) h (I x)) (I y);unfold Tk;rw[g];simp
theorem Tk.set5(h:Tk w b kind t num p)(j:Int)(g:ByteArray)(n2 x y:Int):Tk (((((w.setCell ⟨b,0,none⟩ (I j)).setCell ⟨b,1,none⟩ (.string g)).setCell ⟨b,2,none⟩ (I n2)).setCell ⟨b,3,none⟩ (I x)).setCell ⟨b,4,none⟩ (I y)) b j g n2 (x,y):=
 (((h.set0 j).set1 g).set2 n2).set34 x y
end
theorem Rd.other(h:Rd w b s k v0 v1){r:Nat}(g:b≠r)(j:Nat)(u:Value):Rd (w.setCell ⟨r,j,none⟩ u) b s k v0 v1:=h.of (Below.heap_setCell w ⟨r,j,none⟩ u b g)
theorem end_tk{g:Func}{R:Ending->World->Prop}{s u:Tmp}{kind num:Int}{p:Int×Int}(h:Tk W b kind t num p)(M:g.results= #[.cell s 142,.tmp u])
  (D:A.tmps.getD s undef=Pt b)(K:A.tmps.getD u undef=v)(hd:A.defers=[])(F:R (.returned (.tuple #[.agg #[I kind,.string t,I num,I p.1,I p.2],v])) W):bodyPost Tryz.prog g R .ret A W:=by
 have w:=h.c0;have J:=h.c1;have G:=h.c2;have H:=h.c3;have E:=h.c4;have j:A.tmps[s]?.getD undef=Pt b:=by rw[<-D];simp
 have C:A.tmps[u]?.getD undef=v:=by rw[<-K];simp
 refine bodyPost_ret (v:= .tuple #[.agg #[I kind,.string t,I num,I p.1,I p.2],v]) ?_ hd F;simp[results,M,go_sem,j,C,w,J,G,H,E]
def Blk(w:World)(b:Nat)(ty:TypeId)(C:List Value):Prop:=w.1[b]? =some (.cells C.toArray ty (0,0))
section
variable {w:World} {b:Nat} {ty:TypeId} {C:List Value}
theorem Blk.lt(h:Blk w b ty C):b<w.1.size:=(Array.getElem?_eq_some_iff.1 h).1
theorem Blk.of{w':World}(h:Blk w b ty C)(g:w'.1[b]? =w.1[b]?):Blk w' b ty C:=g.trans h
theorem Blk.new(w:World)(ty:TypeId)(C:List Value):Blk (w.alloc (.cells C.toArray ty)) w.1.size ty C:=World.alloc_heap_new _ _
theorem Blk.alloc(h:Blk w b ty C)(o:Obj):Blk (w.alloc o) b ty C:=h.of ((World.grownBy_alloc w o none).block b h.lt (by simp))
theorem Blk.drew(h:Blk w b ty C):Blk w.drew b ty C:=h
theorem Blk.drewN(h:Blk w b ty C)(n:Nat):Blk (w.drewN n) b ty C:=h
theorem Blk.kp{w':World}{p q:Nat}(h:Blk w b ty C)(g:Kp w w' p q)(j:b≠p)(A:b≠q):Blk w' b ty C:=h.of (g.block b h.lt j A)
theorem Blk.below{w':World}(h:Blk w b ty C)(g:bL w w'):Blk w' b ty C:=h.of (g.block b h.lt)
theorem Blk.cell(h:Blk w b ty C)(j:Nat):w.cell? ⟨b,j,none⟩=C[j]? :=by unfold Blk at h;simp[World.cell?,h]
theorem Blk.frozen(h:Blk w b ty C)(j:Nat):w.frozen? ⟨b,j,none⟩=false:=by unfold Blk at h;simp[World.frozen?,h]
theorem Blk.range(h:Blk w b ty C){pre mid post:List Value}(A:C=pre++(mid++post)):w.rangeAt b pre.length mid:=fun j v g=>by have D:=(List.getElem?_eq_some_iff.1 g).1;rw[h.cell,A,List.getElem?_append_right (by omega),Nat.add_sub_cancel_left,List.getElem?_append_left D];exact g
theorem Blk.whole(h:Blk w b ty C):w.rangeAt b 0 C:=by simpa using h.range (pre:=[]) (mid:=C) (post:=[]) (by simp)
theorem Blk.there(h:Blk w b ty C){o:Nat}(g:o+n<=C.length):w.there b o n:=fun j A=>by refine⟨?_,h.frozen _⟩;rw[h.cell,List.getElem?_eq_getElem (by omega)];rfl
theorem Blk.set1(h:Blk w b ty C)(j:Nat)(u:Value):Blk (w.setCell ⟨b,j,none⟩ u) b ty (C.set j u):=by have:=heap_set (j:=j) h u;unfold Blk;rw[this];simp
theorem Blk.other(h:Blk w b ty C){r:Nat}(g:b≠r)(k:Nat)(u:Value):Blk (w.setCell ⟨r,k,none⟩ u) b ty C:=h.of (Below.heap_setCell w ⟨r,k,none⟩ u b g)
end
theorem heap_setCells{r:Nat}(g:b≠r):∀ (vs:List Value) (o:Nat) (w:World),(w.setCells r o vs).1[b]? =w.1[b]?
 | [],_,_=>rfl
 |v::l,o,w=>by rw[World.setCells,heap_setCells g l,Below.heap_setCell w ⟨r,o,none⟩ v b g]
def putAt:List Value->Nat->List Value->List Value
 |C,_,[]=>C
 |C,o,v::l=>putAt (C.set o v) (o+1) l
theorem putAt_mid:∀ (vs mid pre post:List Value),vs.length=mid.length->putAt (pre++(mid++post)) pre.length vs=pre++(vs++post)
 | [],mid,pre,post,h=>by
  obtain rfl:mid=[]:=List.length_eq_zero_iff.1 h.symm
  rfl
 |v::l,[],pre,post,h=>by simp at h
 |v::l,u::mid,pre,post,h=>by
  rw[putAt]
  have j:(pre++(u::mid++post)).set pre.length v=(pre++[v])++(mid++post):=by simp
  have g:=putAt_mid l mid (pre++[v]) post (by simpa using h)
  rw[j]
  simpa using g
theorem Blk.setCells{ty:TypeId}:∀ (vs:List Value) (o:Nat) {w:World} {C:List Value},Blk w b ty C->Blk (w.setCells b o vs) b ty (putAt C o vs)
 | [],_,_,_,h=>h
 |v::l,o,w,C,h=>by
  rw[World.setCells,putAt]
  exact Blk.setCells l (o+1) (h.set1 o v)
theorem Blk.put{ty:TypeId}{pre mid post vs:List Value}(h:Blk w b ty (pre++(mid++post)))(g:vs.length=mid.length):Blk (w.setCells b pre.length vs) b ty (pre++(vs++post)):=by have:=Blk.setCells vs pre.length h;rwa [putAt_mid _ _ _ _ g]at this
theorem Blk.putAll{ty:TypeId}{C vs:List Value}(h:Blk w b ty C)(g:vs.length=C.length):Blk (w.setCells b 0 vs) b ty vs:=by simpa using Blk.put (pre:=[]) (mid:=C) (post:=[]) (by simpa using h) g
theorem Kp.setCellsA{a:Nat}:∀ (vs:List Value) (o:Nat) {w':World},Kp w w' a b->Kp w (w'.setCells a o vs) a b
 | [],_,_,h=>h
 |v::l,o,w',h=>by
  rw[World.setCells]
  exact Kp.setCellsA l (o+1) (h.setA o v)
theorem Kp.flip{w':World}{a:Nat}(h:Kp w w' a b):Kp w w' b a:=⟨h.os,h.tape,h.output,h.size,fun k j A g=>h.block k j g A⟩
theorem Kp.setCellsB{a:Nat}(vs:List Value)(o:Nat){w':World}(h:Kp w w' a b):Kp w (w'.setCells b o vs) a b:=(Kp.setCellsA vs o h.flip).flip
theorem Kp.setCellsNew{a r:Nat}(g:w.1.size<=r):∀ (vs:List Value) (o:Nat) {w':World},Kp w w' a b->Kp w (w'.setCells r o vs) a b
 | [],_,_,h=>h
 |v::l,o,w',h=>by
  rw[World.setCells]
  exact Kp.setCellsNew g l (o+1) (h.setNew g o v)
theorem Kp.widen{w':World}{a:Nat}(h:Kp w w' a a):Kp w w' a b:=⟨h.os,h.tape,h.output,h.size,fun k j g _=>h.block k j g g⟩
theorem Kp.drop{a r:Nat}(h:Kp w w1 a b)(g:Kp w1 w2 a r)(D:w.1.size<=r):Kp w w2 a b:=
 ⟨g.os.trans h.os,g.tape.trans h.tape,g.output.trans h.output,Nat.le_trans h.size g.size,fun k A j C=> (g.block k (Nat.lt_of_lt_of_le A h.size) j (by omega)).trans (h.block k A j C)⟩
theorem st_run{o:Nat}{cs:List Value}(h:w.there b o n)(C:cs.length=n)(g:∀v∈cs,v.oneCell'=true):
  (storeCells ⟨b,o,none⟩ cs).run Tryz.prog w= .ok () (w.setCells b o cs):=by
 have:=run_storeCells_cells (P:=Tryz.prog) b o cs 0 w (fun j A=>by simpa using(h j (by omega)).1) (fun j A=>by simpa using(h j (by omega)).2) g;simpa using this
structure Wd where
 kind:Int
 text:ByteArray
 num:Int
 line:Int
 col:Int
def Wd.cells(t:Wd):List Value:=[.int .i64 t.kind,.string t.text,.int .i64 t.num,.int .i64 t.line,.int .i64 t.col]
def Wd.val(t:Wd):Value:= .agg #[.int .i64 t.kind,.string t.text,.int .i64 t.num,.int .i64 t.line,.int .i64 t.col]
instance:Inhabited Wd:=⟨⟨0,⟨#[]⟩,0,0,0⟩⟩
def Wds(w:World)(a:Option Addr)(l:List Wd):Prop:=∀i,i<l.length->∃b off,a=some ⟨b,off,none⟩/\
 w.cell? ⟨b,off+i*5,none⟩=some (.int .i64 (l.getD i default).kind)/\w.cell? ⟨b,off+i*5+1,none⟩=some (.string (l.getD i default).text)/\w.cell? ⟨b,off+i*5+2,none⟩=some (.int .i64 (l.getD i default).num)/\
 w.cell? ⟨b,off+i*5+3,none⟩=some (.int .i64 (l.getD i default).line)/\w.cell? ⟨b,off+i*5+4,none⟩=some (.int .i64 (l.getD i default).col)
inductive Ex where
 |mk (kind num:Int) (name:ByteArray) (slot:Int) (loc:Bool) (op:Int) (args:List Ex)
inductive St where
 |mk (kind line col:Int) (name wth:ByteArray) (expr index:Ex) (body els:List St) (id slot other:Int) (loc:Bool)
structure De where
 kind:Int
 line:Int
 col:Int
 name:ByteArray
 num:Int
 body:List St
def noB:ByteArray:=⟨#[]⟩
def zEx:Ex:= .mk 0 0 noB 0 false 0 []
def exNum(n:Int):Ex:= .mk 1 n noB 0 false 0 []
def exName(s:ByteArray):Ex:= .mk 2 0 s 0 false 0 []
def exCell(s:ByteArray)(x:Ex):Ex:= .mk 3 0 s 0 false 0 [x]
def exNeg(x:Ex):Ex:= .mk 4 0 noB 0 false 0 [x]
def exNot(x:Ex):Ex:= .mk 5 0 noB 0 false 0 [x]
def exBin(op:Nat)(x y:Ex):Ex:= .mk 6 0 noB 0 false op [x,y]
def mkSt(kind:Int)(p:Int×Int)(name wth:ByteArray)(expr index:Ex)(body els:List St):St:= .mk kind p.1 p.2 name wth expr index body els 0 0 0 false
abbrev PR (α:Type):=Option (Except Nat (α×Nat))
def andT{α β:Type}(x:PR α)(k:α->Nat->PR β):PR β:=match x with
 |none=>none
 |some (.error j)=>some (.error j)
 |some (.ok (a,j))=>k a j
@[simp] theorem andT_none {α β:Type} (k:α->Nat->PR β):andT none k=none:=rfl
@[simp] theorem andT_err {α β:Type} (j:Nat) (k:α->Nat->PR β):andT (some (.error j)) k=some (.error j):=rfl
@[simp] theorem andT_ok {α β:Type} (a:α) (j:Nat) (k:α->Nat->PR β):andT (some (.ok (a,j))) k=k a j:=rfl
theorem andT_assoc{g w A:Type}(x:PR g)(k:g->Nat->PR w)(l:w->Nat->PR A):andT (andT x k) l=andT x fun a j=>andT (k a j) l:=by rcases x with _| (j|⟨a,j⟩)<;>rfl
section
variable (T:List Wd)
def kindAt(i:Nat):Int:=if i<T.length then (T.getD i default).kind else 0
def isT(i:Nat)(s:ByteArray):Bool:=decide (i<T.length)&& ((decide ((T.getD i default).kind=3)||decide ((T.getD i default).kind=4))&&decide ((T.getD i default).text=s))
def want(s:ByteArray)(i:Nat):PR Unit:=if isT T i s=true then some (.ok ((),i+1)) else some (.error i)
def pName(i:Nat):PR ByteArray:=if kindAt T i=1 then some (.ok ((T.getD i default).text,i+1)) else some (.error i)
def pNumb(i:Nat):PR Int:=if kindAt T i=2 then some (.ok ((T.getD i default).num,i+1)) else some (.error i)
def opS:List ByteArray:=[⟨#[]⟩,⟨#[124,124]⟩,⟨#[38,38]⟩,⟨#[61,61]⟩,⟨#[33,61]⟩,⟨#[60]⟩,⟨#[60,61]⟩,⟨#[43]⟩,⟨#[45]⟩,⟨#[42]⟩,⟨#[47]⟩,⟨#[37]⟩]
def opR:List Nat:=[0,1,2,3,3,3,3,4,4,5,5,5]
def opOf(s:ByteArray):Nat:=((List.range 12).find? fun o=>decide (opS.getD o noB=s)).getD 0
def rankOf(o:Nat):Nat:=opR.getD o 0
def opAt(i:Nat):Nat:=if kindAt T i=4 then opOf (T.getD i default).text else 0
def sMinus:ByteArray:=⟨#[45]⟩
def sNot:ByteArray:=⟨#[33]⟩
def sOpen:ByteArray:=⟨#[40]⟩
def sShut:ByteArray:=⟨#[41]⟩
def sBrO:ByteArray:=⟨#[91]⟩
def sBrS:ByteArray:=⟨#[93]⟩
def sBlO:ByteArray:=⟨#[123]⟩
def sBlS:ByteArray:=⟨#[125]⟩
def sEq:ByteArray:=⟨#[61]⟩
def sSemi:ByteArray:=⟨#[59]⟩
def nextM(r:Nat):Nat:=if r=3 then 2 else r
mutual
def pE:Nat->Nat->Nat->PR Ex
 |0,_,_=>none
 |f+1,least,i=>andT (pU f i) fun l j=>pL f least 6 l j
def pL:Nat->Nat->Nat->Ex->Nat->PR Ex
 |0,_,_,_,_=>none
 |f+1,least,most,l,i=>
  if opAt T i=0∨rankOf (opAt T i)<least∨most<rankOf (opAt T i) then some (.ok (l,i))
  else andT (pE f (rankOf (opAt T i)+1) (i+1)) fun x j=>pL f least (nextM (rankOf (opAt T i))) (exBin (opAt T i) l x) j
def pU:Nat->Nat->PR Ex
 |0,_=>none
 |f+1,i=>
  if isT T i sMinus=true then andT (pU f (i+1)) fun x j=>some (.ok (exNeg x,j))
  else if isT T i sNot=true then andT (pU f (i+1)) fun x j=>some (.ok (exNot x,j))
  else pP f i
def pP:Nat->Nat->PR Ex
 |0,_=>none
 |f+1,i=>
  if isT T i sOpen=true then andT (pE f 1 (i+1)) fun x j=>andT (want T sShut j) fun _ k=>some (.ok (x,k))
  else if kindAt T i=2 then some (.ok (exNum (T.getD i default).num,i+1))
  else andT (pName T i) fun s j=>if isT T j sBrO=true then andT (pE f 1 (j+1)) fun x k=>andT (want T sBrS k) fun _ m=>some (.ok (exCell s x,m)) else some (.ok (exName s,j))
end
theorem kind_lt(h:kindAt T i≠0):i<T.length:=by
 unfold kindAt at h;split at h
 .assumption
 .exact absurd z h
theorem isT_lt(h:isT T i s=true):i<T.length:=by unfold isT at h;simp only[Bool.and_eq_true,decide_eq_true_eq]at h;exact h.1
theorem opAt_lt(h:opAt T i≠0):i<T.length:=by
 unfold opAt at h;split at h
 .rename_i g;exact kind_lt T (by rw[g];decide)
 .exact absurd z h
theorem pMono:∀f,
  (∀n i R,pE T f n i=some R->pE T (f+1) n i=some R)/\(∀n m l i R,pL T f n m l i=some R->pL T (f+1) n m l i=some R)/\
  (∀i R,pU T f i=some R->pU T (f+1) i=some R)/\(∀i R,pP T f i=some R->pP T (f+1) i=some R):=by
 intro f;induction f with
 |zero=>exact⟨fun _ _ _ h=>by simp[pE]at h,fun _ _ _ _ _ h=>by simp[pL]at h,fun _ _ h=>by simp[pU]at h,fun _ _ h=>by simp[pP]at h⟩
 |succ f F=>
  obtain⟨A,E,C,G⟩:=F;refine⟨fun n i R h=>?_,fun n m l i R h=>?_,fun i R h=>?_,fun i R h=>?_⟩
  .rw[pE]at h ⊢;rcases hx:pU T f i with _| (j|⟨a,j⟩)
   .rw[hx]at h;cases h
   .rw[hx]at h;rw[C _ _ hx];exact h
   .rw[hx]at h;rw[C _ _ hx];exact E _ _ _ _ _ h
  .rw[pL]at h ⊢;split at h
   .rename_i g;rw[if_pos g];exact h
   .rename_i g;rw[if_neg g];rcases hx:pE T f (rankOf (opAt T i)+1) (i+1) with _| (j|⟨a,j⟩)
    .rw[hx]at h;cases h
    .rw[hx]at h;rw[A _ _ _ hx];exact h
    .rw[hx]at h;rw[A _ _ _ hx];exact E _ _ _ _ _ h
  .rw[pU]at h ⊢;split at h
   .rename_i g;rw[if_pos g];rcases hx:pU T f (i+1) with _| (j|⟨a,j⟩)
    .rw[hx]at h;cases h
    .rw[hx]at h;rw[C _ _ hx];exact h
    .rw[hx]at h;rw[C _ _ hx];exact h
   .rename_i g;rw[if_neg g];split at h
    .rename_i w;rw[if_pos w];rcases hx:pU T f (i+1) with _| (j|⟨a,j⟩)
     .rw[hx]at h;cases h
     .rw[hx]at h;rw[C _ _ hx];exact h
     .rw[hx]at h;rw[C _ _ hx];exact h
    .rename_i w;rw[if_neg w];exact G _ _ h
  .rw[pP]at h ⊢;split at h
   .rename_i g;rw[if_pos g];rcases hx:pE T f 1 (i+1) with _| (j|⟨a,j⟩)
    .rw[hx]at h;cases h
    .rw[hx]at h;rw[A _ _ _ hx];exact h
    .rw[hx]at h;rw[A _ _ _ hx];exact h
   .rename_i g;rw[if_neg g];split at h
    .rename_i w;rw[if_pos w];exact h
    .rename_i w;rw[if_neg w];rcases hn:pName T i with _| (j|⟨s,j⟩)
     .rw[hn]at h;cases h
     .rw[hn]at h;exact h
     .rw[hn]at h;simp only[andT_ok]at h ⊢;split at h
      .rename_i D;rw[if_pos D];rcases hx:pE T f 1 (j+1) with _| (k|⟨a,k⟩)
       .rw[hx]at h;cases h
       .rw[hx]at h;rw[A _ _ _ hx];exact h
       .rw[hx]at h;rw[A _ _ _ hx];exact h
      .rename_i D;rw[if_neg D];exact h
theorem pName_ok(h:pName T i=some (.ok (s,j))):j=i+1/\i<T.length:=by
 unfold pName at h;split at h
 .rename_i g;simp only[Option.some.injEq,Except.ok.injEq,Prod.mk.injEq]at h;exact⟨h.2.symm,kind_lt T (by rw[g];decide)⟩
 .simp at h
theorem want_ok(h:want T s i=some (.ok ((),j))):j=i+1/\i<T.length:=by
 unfold want at h;split at h
 .rename_i g;simp only[Option.some.injEq,Except.ok.injEq,Prod.mk.injEq]at h;exact⟨h.2.symm,isT_lt T g⟩
 .simp at h
def Adv{α:Type}(i:Nat)(R:Except Nat (α×Nat)):Prop:=∀x j,R= .ok (x,j)->i<j/\j<=T.length
def AdvL{α:Type}(i:Nat)(R:Except Nat (α×Nat)):Prop:=∀x j,R= .ok (x,j)->i<=j/\j<=T.length
theorem pTotal:∀f,
  (∀n i,i<=T.length->4* (T.length-i)+3<=f->∃R,pE T f n i=some R/\Adv T i R)/\(∀n m l i,i<=T.length->4* (T.length-i)+1<=f->∃R,pL T f n m l i=some R/\AdvL T i R)/\
  (∀i,i<=T.length->4* (T.length-i)+2<=f->∃R,pU T f i=some R/\Adv T i R)/\(∀i,i<=T.length->4* (T.length-i)+1<=f->∃R,pP T f i=some R/\Adv T i R):=by
 intro f;induction f with
 |zero=>exact⟨fun _ _ _ h=>by omega,fun _ _ _ _ _ h=>by omega,fun _ _ h=>by omega,fun _ _ h=>by omega⟩
 |succ f U=>
  obtain⟨H,K,J,S⟩:=U;refine⟨fun n i E h=>?_,fun n m l i E h=>?_,fun i E h=>?_,fun i E h=>?_⟩
  .rw[pE];obtain⟨R,A,w⟩:=J i E (by omega);rw[A];rcases R with j|⟨a,j⟩
   .exact⟨_,z,fun _ _ h=>by cases h⟩
   .obtain⟨G,D⟩:=w a j z;obtain⟨R,A,w⟩:=K n 6 a j D (by omega);exact⟨R,A,fun x k g=>⟨by have:=w x k g;omega,(w x k g).2⟩⟩
  .rw[pL];split
   .exact⟨_,z,fun x j g=>by cases g;exact⟨rl,E⟩⟩
   .rename_i C;have Q:opAt T i≠0:=fun e=>C (.inl e);have F:=opAt_lt T Q;obtain⟨R,A,w⟩:=H (rankOf (opAt T i)+1) (i+1) (by omega) (by omega);rw[A];rcases R with j|⟨a,j⟩
    .exact⟨_,z,fun _ _ h=>by cases h⟩
    .obtain⟨G,D⟩:=w a j z;obtain⟨R,A,w⟩:=K n (nextM (rankOf (opAt T i))) (exBin (opAt T i) l a) j D (by omega);exact⟨R,A,fun x k g=>⟨by have:=w x k g;omega,(w x k g).2⟩⟩
  .rw[pU];split
   .rename_i C;have F:=isT_lt T C;obtain⟨R,A,w⟩:=J (i+1) (by omega) (by omega);rw[A];rcases R with j|⟨a,j⟩
    .exact⟨_,z,fun _ _ h=>by cases h⟩
    .obtain⟨G,D⟩:=w a j z;exact⟨_,z,fun x k g=>by cases g;exact⟨by omega,D⟩⟩
   .split
    .rename_i C;have F:=isT_lt T C;obtain⟨R,A,w⟩:=J (i+1) (by omega) (by omega);rw[A];rcases R with j|⟨a,j⟩
     .exact⟨_,z,fun _ _ h=>by cases h⟩
     .obtain⟨G,D⟩:=w a j z;exact⟨_,z,fun x k g=>by cases g;exact⟨by omega,D⟩⟩
    .exact S i E (by omega)
  .rw[pP];split
   .rename_i C;have F:=isT_lt T C;obtain⟨R,A,w⟩:=H 1 (i+1) (by omega) (by omega);rw[A];rcases R with j|⟨a,j⟩
    .exact⟨_,z,fun _ _ h=>by cases h⟩
    .obtain⟨G,D⟩:=w a j z;simp only[andT_ok];rcases hw:want T sShut j with _| (k|⟨u,k⟩)
     .unfold want at hw;split at hw<;>cases hw
     .exact⟨_,z,fun _ _ h=>by cases h⟩
     .obtain⟨N,M⟩:=want_ok T hw;exact⟨_,z,fun x m g=>by cases g;omega⟩
   .split
    .rename_i C;have F:=kind_lt T (i:=i) (by rw[C];decide);exact⟨_,z,fun x m g=>by cases g;omega⟩
    .rcases hn:pName T i with _| (j|⟨s,j⟩)
     .unfold pName at hn;split at hn<;>cases hn
     .exact⟨_,z,fun _ _ h=>by cases h⟩
     .obtain⟨G,D⟩:=pName_ok T hn;simp only[andT_ok];split
      .rename_i C;have F:=isT_lt T C;obtain⟨R,A,w⟩:=H 1 (j+1) (by omega) (by omega);rw[A];rcases R with k|⟨a,k⟩
       .exact⟨_,z,fun _ _ h=>by cases h⟩
       .obtain⟨N,M⟩:=w a k z;simp only[andT_ok];rcases hw:want T sBrS k with _| (m|⟨u,m⟩)
        .unfold want at hw;split at hw<;>cases hw
        .exact⟨_,z,fun _ _ h=>by cases h⟩
        .obtain⟨W,V⟩:=want_ok T hw;exact⟨_,z,fun x m g=>by cases g;omega⟩
      .exact⟨_,z,fun x m g=>by cases g;omega⟩
end
def stW:List ByteArray:=[⟨#[]⟩,⟨#[108,101,116]⟩,⟨#[]⟩,⟨#[]⟩,⟨#[105,102]⟩,⟨#[119,104,105,108,101]⟩,⟨#[108,111,99,107]⟩,⟨#[117,110,108,111,99,107]⟩,⟨#[119,97,105,116]⟩,⟨#[115,105,103,110,97,108]⟩,⟨#[97,108,108]⟩,⟨#[115,101,110,100]⟩,⟨#[114,101,99,118]⟩,⟨#[115,112,97,119,110]⟩,⟨#[106,111,105,110]⟩,⟨#[112,114,105,110,116]⟩]
def deW:List ByteArray:=[⟨#[]⟩,⟨#[118,97,114]⟩,⟨#[97,114,114,97,121]⟩,⟨#[109,117,116,101,120]⟩,⟨#[99,111,110,100]⟩,⟨#[99,104,97,110]⟩,⟨#[116,104,114,101,97,100]⟩]
def wElse:ByteArray:=⟨#[101,108,115,101]⟩
def stOf(s:ByteArray):Nat:=((List.range 16).find? fun k=>decide (stW.getD k noB≠noB)&&decide (stW.getD k noB=s)).getD 0
section
variable (T:List Wd)
def plOf(i:Nat):Int×Int:=((T.getD i default).line,(T.getD i default).col)
def pX(i:Nat):PR Ex:=pE T (4*T.length+4) 1 i
theorem pX_total(g:i<=T.length):∃R,pX T i=some R/\Adv T i R:=(pTotal T _).1 1 i g (by omega)
def pPlain(p:Int×Int)(k:Nat)(i:Nat):PR St:=
 if k=14 then andT (want T sSemi i) fun _ j=>some (.ok (mkSt 14 p noB noB zEx zEx [] [],j))
 else if k=15 then andT (pX T i) fun x j=>andT (want T sSemi j) fun _ m=>some (.ok (mkSt 15 p noB noB x zEx [] [],m))
 else andT (pName T i) fun s j=>
  if k=1 then andT (want T sEq j) fun _ m=>andT (pX T m) fun x n=>andT (want T sSemi n) fun _ q=>some (.ok (mkSt 1 p s noB x zEx [] [],q))
  else if k=8∨k=12 then andT (pName T j) fun t m=>andT (want T sSemi m) fun _ q=>some (.ok (mkSt k p s t zEx zEx [] [],q))
  else if k=11 then andT (pX T j) fun x m=>andT (want T sSemi m) fun _ q=>some (.ok (mkSt 11 p s noB x zEx [] [],q))
  else andT (want T sSemi j) fun _ q=>some (.ok (mkSt k p s noB zEx zEx [] [],q))
def pAssign(p:Int×Int)(i:Nat):PR St:=
 andT (pName T i) fun s j=>
  if isT T j sBrO=true then andT (pX T (j+1)) fun y m=>andT (want T sBrS m) fun _ n=>andT (want T sEq n) fun _ q=>andT (pX T q) fun x r=>andT (want T sSemi r) fun _ t=>some (.ok (mkSt 3 p s noB x y [] [],t))
  else andT (want T sEq j) fun _ n=>andT (pX T n) fun x r=>andT (want T sSemi r) fun _ t=>some (.ok (mkSt 2 p s noB x zEx [] [],t))
mutual
def pB:Nat->Nat->PR (List St)
 |0,_=>none
 |f+1,i=>andT (want T sBlO i) fun _ j=>pSs f [] j
def pSs:Nat->List St->Nat->PR (List St)
 |0,_,_=>none
 |f+1,acc,i=>if isT T i sBlS=true then some (.ok (acc,i+1)) else andT (pS f i) fun s j=>pSs f (acc++[s]) j
def pS:Nat->Nat->PR St
 |0,_=>none
 |f+1,i=>
  if kindAt T i=1 then pAssign T (plOf T i) i
  else if kindAt T i≠3∨stOf (T.getD i default).text=0 then some (.error i)
  else if stOf (T.getD i default).text=5 then andT (pX T (i+1)) fun x j=>andT (pB f j) fun b m=>some (.ok (mkSt 5 (plOf T i) noB noB x zEx b [],m))
  else if stOf (T.getD i default).text=4 then andT (pX T (i+1)) fun x j=>andT (pB f j) fun b m=>
   if isT T m wElse=true then andT (pB f (m+1)) fun c n=>some (.ok (mkSt 4 (plOf T i) noB noB x zEx b c,n)) else some (.ok (mkSt 4 (plOf T i) noB noB x zEx b [],m))
  else pPlain T (plOf T i) (stOf (T.getD i default).text) (i+1)
end
theorem want_total(s:ByteArray)(_g:i<=T.length):∃R,want T s i=some R/\Adv T i R:=by
 unfold want;split
 .rename_i h;have:=isT_lt T h;exact⟨_,z,fun _ _ h=>by cases h;omega⟩
 .exact⟨_,z,fun _ _ h=>by cases h⟩
theorem pName_total(_g:i<=T.length):∃R,pName T i=some R/\Adv T i R:=by
 unfold pName;split
 .rename_i h;have:=kind_lt T (i:=i) (by rw[h];decide);exact⟨_,z,fun _ _ h=>by cases h;omega⟩
 .exact⟨_,z,fun _ _ h=>by cases h⟩
theorem pNumb_total(_g:i<=T.length):∃R,pNumb T i=some R/\Adv T i R:=by
 unfold pNumb;split
 .rename_i h;have:=kind_lt T (i:=i) (by rw[h];decide);exact⟨_,z,fun _ _ h=>by cases h;omega⟩
 .exact⟨_,z,fun _ _ h=>by cases h⟩
theorem andT_total{w E:Type}{x:PR w}{k:w->Nat->PR E}(g:∃R,x=some R/\Adv T i R)(F:∀a j,i<j->j<=T.length->∃R,k a j=some R/\AdvL T j R):∃R,andT x k=some R/\Adv T i R:=by
 obtain⟨R,rfl,G⟩:=g;rcases R with j|⟨a,j⟩
 .exact⟨_,z,fun _ _ h=>by cases h⟩
 .obtain⟨H,A⟩:=G a j z;obtain⟨R,C,D⟩:=F a j H A;exact⟨R,C,fun x m g=>by have:=D x m g;omega⟩
theorem Adv.l{g:Type}{R:Except Nat (g×Nat)}(h:Adv T i R):AdvL T i R:=fun x j w=>by have:=h x j w;omega
theorem total_l{w:Type}{x:PR w}(h:∃R,x=some R/\Adv T i R):∃R,x=some R/\AdvL T i R:=by obtain⟨R,j,g⟩:=h;exact⟨R,j,g.l⟩
theorem end_total{g:Type}(a:g)(j:i<=T.length):∃R:Except Nat (g×Nat),(some (Except.ok (a,i)):PR g)=some R/\AdvL T i R:=⟨_,z,fun _ _ h=>by cases h;omega⟩
theorem pPlain_total(p:Int×Int)(k:Nat)(g:i<=T.length):∃R,pPlain T p k i=some R/\Adv T i R:=by
 unfold pPlain;split
 .exact andT_total T (want_total T _ g) fun _ j _ h=>end_total T _ h
 split
 .exact andT_total T (pX_total T g) fun _ j _ h=>total_l T (andT_total T (want_total T _ h) fun _ j _ h=>end_total T _ h)
 refine andT_total T (pName_total T g) fun s j _ h=>?_;split
 .exact total_l T (andT_total T (want_total T _ h) fun _ j _ h=>total_l T (andT_total T (pX_total T h) fun _ j _ h=>total_l T (andT_total T (want_total T _ h) fun _ j _ h=>end_total T _ h)))
 split
 .exact total_l T (andT_total T (pName_total T h) fun _ j _ h=>total_l T (andT_total T (want_total T _ h) fun _ j _ h=>end_total T _ h))
 split
 .exact total_l T (andT_total T (pX_total T h) fun _ j _ h=>total_l T (andT_total T (want_total T _ h) fun _ j _ h=>end_total T _ h))
 .exact total_l T (andT_total T (want_total T _ h) fun _ j _ h=>end_total T _ h)
theorem pAssign_total(p:Int×Int)(g:i<=T.length):∃R,pAssign T p i=some R/\Adv T i R:=by
 unfold pAssign;refine andT_total T (pName_total T g) fun s j _ h=>?_;split
 .rename_i A;have E:=isT_lt T A;apply total_l T;obtain⟨R,C,D⟩:=andT_total T (pX_total T (i:=j+1) (by omega)) (k:=fun y m=>andT (want T sBrS m) fun _ n=>andT (want T sEq n) fun _ q=>andT (pX T q) fun x r=>andT (want T sSemi r) fun _ t=>some (.ok (mkSt 3 p s noB x y [] [],t))) fun _ j _ h=>total_l T (andT_total T (want_total T _ h) fun _ j _ h=>total_l T (andT_total T (want_total T _ h) fun _ j _ h=>total_l T (andT_total T (pX_total T h) fun _ j _ h=>total_l T (andT_total T (want_total T _ h) fun _ j _ h=>end_total T _ h))));exact⟨R,C,fun x m w=>by have:=D x m w;omega⟩
 .exact total_l T (andT_total T (want_total T _ h) fun _ j _ h=>total_l T (andT_total T (pX_total T h) fun _ j _ h=>total_l T (andT_total T (want_total T _ h) fun _ j _ h=>end_total T _ h)))
theorem pSTotal:∀f,
  (∀i,i<=T.length->3* (T.length-i)+1<=f->∃R,pB T f i=some R/\Adv T i R)/\(∀acc i,i<=T.length->3* (T.length-i)+2<=f->∃R,pSs T f acc i=some R/\Adv T i R)/\
  (∀i,i<=T.length->3* (T.length-i)+1<=f->∃R,pS T f i=some R/\Adv T i R):=by
 intro f;induction f with
 |zero=>exact⟨fun _ _ h=>by omega,fun _ _ _ h=>by omega,fun _ _ h=>by omega⟩
 |succ f N=>
  obtain⟨D,E,G⟩:=N;refine⟨fun i w h=>?_,fun acc i w h=>?_,fun i w h=>?_⟩
  .rw[pB];exact andT_total T (want_total T _ w) fun _ j C g=>total_l T (E [] j g (by omega))
  .rw[pSs];split
   .rename_i A;have:=isT_lt T A;exact⟨_,z,fun _ _ h=>by cases h;omega⟩
   .exact andT_total T (G i w (by omega)) fun s j C g=>total_l T (E _ j g (by omega))
  .rw[pS];split
   .exact pAssign_total T _ w
   split
   .exact⟨_,z,fun _ _ h=>by cases h⟩
   rename_i U A;have J:kindAt T i=3:=by
    rcases Int.decEq (kindAt T i) 3 with h|h
    .exact absurd (.inl h) A
    .exact h
   have S:=kind_lt T (i:=i) (by rw[J];decide);have up:∀ {H:Type} {x:PR H},(∃R,x=some R/\Adv T (i+1) R)->∃R,x=some R/\Adv T i R:=fun ⟨R,C,g⟩=>⟨R,C,fun a j h=>by have:=g a j h;omega⟩;split
   .exact up (andT_total T (pX_total T (by omega)) fun x j C g=>total_l T (andT_total T (D j g (by omega)) fun b m _ h=>end_total T _ h))
   split
   .refine up (andT_total T (pX_total T (by omega)) fun x j C g=>total_l T (andT_total T (D j g (by omega)) fun b m Q F=>?_));split
    .rename_i A;have:=isT_lt T A;obtain⟨R,K,M⟩:=andT_total T (D (m+1) (by omega) (by omega)) (k:=fun c n=>some (.ok (mkSt 4 (plOf T i) noB noB x zEx b c,n))) fun c n _ h=>end_total T _ h;exact⟨R,K,fun a n h=>by have:=M a n h;omega⟩
    .exact end_total T _ F
   .exact up (pPlain_total T _ _ (by omega))
def pBlk(i:Nat):PR (List St):=pB T (3*T.length+3) i
theorem pBlk_total(g:i<=T.length):∃R,pBlk T i=some R/\Adv T i R:=(pSTotal T _).1 i g (by omega)
def mkDe(k:Int)(p:Int×Int)(s:ByteArray)(n:Int)(b:List St):De:=⟨k,p.1,p.2,s,n,b⟩
def deAt(i:Nat):Nat:=((List.range 7).find? fun k=>decide (k≠0)&&isT T i (deW.getD k noB)).getD 0
def pD(i:Nat):PR De:=
 if deAt T i=0 then some (.error i)
 else andT (pName T (i+1)) fun s j=>
  if deAt T i=1 then andT (want T sEq j) fun _ m=>
   if isT T m sMinus=true then andT (pNumb T (m+1)) fun n q=>andT (want T sSemi q) fun _ t=>some (.ok (mkDe 1 (plOf T i) s (-n) [],t))
   else andT (pNumb T m) fun n q=>andT (want T sSemi q) fun _ t=>some (.ok (mkDe 1 (plOf T i) s n [],t))
  else if deAt T i=2∨deAt T i=5 then andT (pNumb T j) fun n q=>andT (want T sSemi q) fun _ t=>some (.ok (mkDe (deAt T i) (plOf T i) s n [],t))
  else if deAt T i=6 then andT (pBlk T j) fun b q=>some (.ok (mkDe 6 (plOf T i) s 0 b,q))
  else andT (want T sSemi j) fun _ t=>some (.ok (mkDe (deAt T i) (plOf T i) s 0 [],t))
theorem deAt_lt(h:deAt T i≠0):i<T.length:=by
 unfold deAt at h;rcases hf:(List.range 7).find? fun k=>decide (k≠0)&&isT T i (deW.getD k noB) with _|k
 .rw[hf]at h;exact absurd z h
 .have:=List.find?_some hf;simp only[Bool.and_eq_true]at this;exact isT_lt T this.2
theorem pD_total(_F:i<=T.length):∃R,pD T i=some R/\Adv T i R:=by
 unfold pD;split
 .exact⟨_,z,fun _ _ h=>by cases h⟩
 rename_i g;have G:=deAt_lt T g;have up:∀ {A:Type} {x:PR A},(∃R,x=some R/\Adv T (i+1) R)->∃R,x=some R/\Adv T i R:=fun ⟨R,E,w⟩=>⟨R,E,fun a j h=>by have:=w a j h;omega⟩;refine up (andT_total T (pName_total T (by omega)) fun s j _ h=>?_);split
 .refine total_l T (andT_total T (want_total T _ h) fun _ m _ h=>?_);split
  .rename_i g;have:=isT_lt T g;obtain⟨R,C,D⟩:=andT_total T (pNumb_total T (i:=m+1) (by omega)) (k:=fun n q=>andT (want T sSemi q) fun _ t=>some (.ok (mkDe 1 (plOf T i) s (-n) [],t))) fun _ q _ h=>total_l T (andT_total T (want_total T _ h) fun _ j _ h=>end_total T _ h);exact⟨R,C,fun a n h=>by have:=D a n h;omega⟩
  .exact total_l T (andT_total T (pNumb_total T h) fun _ q _ h=>total_l T (andT_total T (want_total T _ h) fun _ j _ h=>end_total T _ h))
 split
 .exact total_l T (andT_total T (pNumb_total T h) fun _ q _ h=>total_l T (andT_total T (want_total T _ h) fun _ j _ h=>end_total T _ h))
 split
 .exact total_l T (andT_total T (pBlk_total T h) fun _ q _ h=>end_total T _ h)
 .exact total_l T (andT_total T (want_total T _ h) fun _ j _ h=>end_total T _ h)
def pDs:Nat->List De->Nat->PR (List De)
 |0,_,_=>none
 |f+1,acc,i=>if i<T.length then andT (pD T i) fun d j=>pDs f (acc++[d]) j else some (.ok (acc,i))
theorem pDs_total:∀f acc i,i<=T.length->T.length-i+1<=f->∃R,pDs T f acc i=some R:=by
 intro f;induction f with
 |zero=>intro _ _ _ h;omega
 |succ f A=>
  intro acc i g h;rw[pDs];split
  .obtain⟨R,C,D⟩:=pD_total T g;rw[C];rcases R with j|⟨a,j⟩
   .exact⟨_,z⟩
   .obtain⟨E,w⟩:=D a j z;exact A _ j w (by omega)
  .exact⟨_,z⟩
end
mutual
def Ex.depth:Ex->Nat
 | .mk _ _ _ _ _ _ args=>Ex.depths args+1
def Ex.depths:List Ex->Nat
 | []=>0
 |e::r=>max e.depth (Ex.depths r)
end
mutual
def St.deep:St->Nat->Option (Int×Int)
 | .mk _ l c _ _ x y b e _ _ _ _,d=>if 24<d∨24<y.depth∨24<x.depth then some (l,c) else match St.deeps b (d+1) with
  |some p=>some p
  |none=>St.deeps e (d+1)
def St.deeps:List St->Nat->Option (Int×Int)
 | [],_=>none
 |s::r,d=>match s.deep d with
  |some p=>some p
  |none=>St.deeps r d
end
def deDeep:List De->Option (Int×Int)
 | []=>none
 |d::r=>match St.deeps d.body 1 with
  |some p=>some p
  |none=>deDeep r
def Roomy(n cap:Nat):Prop:=n<=cap/\cap<=9223372036854775807
mutual
def ExL (ok:Nat->Prop) (w:World):List Value->Ex->Prop
 |cs,.mk k n s sl lo o args=>∃ (a:Option Addr) (cap:Nat),cs=[.int .i64 k,.int .i64 n,.string s,.int .i64 sl,.bool lo,.int .i64 o,.slice a args.length cap]/\Roomy args.length cap/\ExsL ok w a 0 args
def ExsL (ok:Nat->Prop) (w:World):Option Addr->Nat->List Ex->Prop
 |_,_,[]=>True
 |a,i,e::r=> (∃ (b off:Nat) (cs:List Value),a=some ⟨b,off,none⟩/\ok b/\(∀ (t:Nat) (v:Value),cs[t]? =some v->w.cellF ⟨b,off+i*7+t,none⟩=some v)/\ExL ok w cs e)/\ExsL ok w a (i+1) r
end
mutual
theorem ExL.keep {ok:Nat->Prop} {w w':World} (hk:∀ (b o:Nat) (v:Value),ok b->w.cellF ⟨b,o,none⟩=some v->w'.cellF ⟨b,o,none⟩=some v):∀ {cs:List Value} {e:Ex},ExL ok w cs e->ExL ok w' cs e
 |cs,.mk k n s sl lo o args,h=>by
  unfold ExL at h ⊢
  obtain⟨a,cap,h1,h2,h3⟩:=h
  exact⟨a,cap,h1,h2,ExsL.keep hk h3⟩
theorem ExsL.keep {ok:Nat->Prop} {w w':World} (hk:∀ (b o:Nat) (v:Value),ok b->w.cellF ⟨b,o,none⟩=some v->w'.cellF ⟨b,o,none⟩=some v):∀ {a:Option Addr} {i:Nat} {l:List Ex},ExsL ok w a i l->ExsL ok w' a i l
 |_,_,[],_=>by unfold ExsL;trivial
 |a,i,e::r,h=>by
  unfold ExsL at h ⊢
  obtain⟨⟨b,off,cs,h1,h2,h3,h4⟩,h5⟩:=h
  exact⟨⟨b,off,cs,h1,h2,fun t v hv=>hk _ _ _ h2 (h3 t v hv),ExL.keep hk h4⟩,ExsL.keep hk h5⟩
end
mutual
theorem ExL.weak {ok ok':Nat->Prop} {w:World} (hk:∀b,ok b->ok' b):∀ {cs:List Value} {e:Ex},ExL ok w cs e->ExL ok' w cs e
 |cs,.mk k n s sl lo o args,h=>by
  unfold ExL at h ⊢
  obtain⟨a,cap,h1,h2,h3⟩:=h
  exact⟨a,cap,h1,h2,ExsL.weak hk h3⟩
theorem ExsL.weak {ok ok':Nat->Prop} {w:World} (hk:∀b,ok b->ok' b):∀ {a:Option Addr} {i:Nat} {l:List Ex},ExsL ok w a i l->ExsL ok' w a i l
 |_,_,[],_=>by unfold ExsL;trivial
 |a,i,e::r,h=>by
  unfold ExsL at h ⊢
  obtain⟨⟨b,off,cs,h1,h2,h3,h4⟩,h5⟩:=h
  exact⟨⟨b,off,cs,h1,hk _ h2,h3,ExL.weak hk h4⟩,ExsL.weak hk h5⟩
end
theorem ExsL.atF{ok:Nat->Prop}:∀ {l:List Ex} {i:Nat},ExsL ok w a i l->∀j,j<l.length->
  ∃ (b g:Nat) (cs:List Value),a=some ⟨b,g,none⟩/\ok b/\(∀ (t:Nat) (v:Value),cs[t]? =some v->w.cellF ⟨b,g+(i+j)*7+t,none⟩=some v)/\ExL ok w cs (l.getD j zEx)
 | [],_,_,j,hj=>by cases hj
 |e::r,i,h,j,hj=>by
  unfold ExsL at h
  obtain⟨⟨b,g,cs,E,D,C,A⟩,F⟩:=h
  cases j with
  |zero=>exact⟨b,g,cs,E,D,C,A⟩
  |succ j=>
   have:=F.atF j (by simpa using hj)
   rw[show i+(j+1)=i+1+j by omega]
   simpa using this
theorem ExsL.at{ok:Nat->Prop}{l:List Ex}(h:ExsL ok w a i l)(j:Nat)(hj:j<l.length):
  ∃ (b off:Nat) (cs:List Value),a=some ⟨b,off,none⟩/\ok b/\(∀ (t:Nat) (v:Value),cs[t]? =some v->w.cell? ⟨b,off+(i+j)*7+t,none⟩=some v)/\ExL ok w cs (l.getD j zEx):=by
 obtain⟨b,off,cs,h1,h2,h3,h4⟩:=h.atF j hj;exact⟨b,off,cs,h1,h2,fun t v hv=>World.cellF_cell (h3 t v hv),h4⟩
theorem ExsL.mk{ok:Nat->Prop}:∀ {l:List Ex} {i:Nat},(∀j,j<l.length->∃ (b g:Nat) (cs:List Value),a=some ⟨b,g,none⟩/\ok b/\(∀ (t:Nat) (v:Value),cs[t]? =some v->w.cellF ⟨b,g+(i+j)*7+t,none⟩=some v)/\ExL ok w cs (l.getD j zEx))->ExsL ok w a i l
 | [],_,_=>by unfold ExsL;trivial
 |e::r,i,h=>by
  unfold ExsL
  refine⟨h 0 (by simp),ExsL.mk (l:=r) (i:=i+1) fun j A=>?_⟩
  have:=h (j+1) (by simpa using A)
  rw[show i+1+j=i+(j+1) by omega]
  simpa using this
mutual
def StL (ok:Nat->Prop) (w:World):List Value->St->Prop
 |cs,.mk k l c s t x y body els id sl ot lo=>∃ (cx cy:List Value) (a a':Option Addr) (cap cap':Nat),
  cs= .int .i64 k:: .int .i64 l:: .int .i64 c:: .string s:: .string t::(cx++(cy++[.slice a body.length cap,.slice a' els.length cap',.int .i64 id,.int .i64 sl,.int .i64 ot,.bool lo]))/\
   ExL ok w cx x/\ExL ok w cy y/\Roomy body.length cap/\StsL ok w a 0 body/\Roomy els.length cap'/\StsL ok w a' 0 els
def StsL (ok:Nat->Prop) (w:World):Option Addr->Nat->List St->Prop
 |_,_,[]=>True
 |a,i,s::r=> (∃ (b off:Nat) (cs:List Value),a=some ⟨b,off,none⟩/\ok b/\(∀ (t:Nat) (v:Value),cs[t]? =some v->w.cellF ⟨b,off+i*25+t,none⟩=some v)/\StL ok w cs s)/\StsL ok w a (i+1) r
end
mutual
theorem StL.keep {ok:Nat->Prop} {w w':World} (hk:∀ (b o:Nat) (v:Value),ok b->w.cellF ⟨b,o,none⟩=some v->w'.cellF ⟨b,o,none⟩=some v):∀ {cs:List Value} {s:St},StL ok w cs s->StL ok w' cs s
 |cs,.mk k l c s t x y body els id sl ot lo,h=>by
  unfold StL at h ⊢
  obtain⟨cx,cy,a,a',cap,cap',h1,h2,h3,h4,h5,h6,h7⟩:=h
  exact⟨cx,cy,a,a',cap,cap',h1,h2.keep hk,h3.keep hk,h4,StsL.keep hk h5,h6,StsL.keep hk h7⟩
theorem StsL.keep {ok:Nat->Prop} {w w':World} (hk:∀ (b o:Nat) (v:Value),ok b->w.cellF ⟨b,o,none⟩=some v->w'.cellF ⟨b,o,none⟩=some v):∀ {a:Option Addr} {i:Nat} {l:List St},StsL ok w a i l->StsL ok w' a i l
 |_,_,[],_=>by unfold StsL;trivial
 |a,i,e::r,h=>by
  unfold StsL at h ⊢
  obtain⟨⟨b,off,cs,h1,h2,h3,h4⟩,h5⟩:=h
  exact⟨⟨b,off,cs,h1,h2,fun t v hv=>hk _ _ _ h2 (h3 t v hv),StL.keep hk h4⟩,StsL.keep hk h5⟩
end
mutual
theorem StL.weak {ok ok':Nat->Prop} {w:World} (hk:∀b,ok b->ok' b):∀ {cs:List Value} {s:St},StL ok w cs s->StL ok' w cs s
 |cs,.mk k l c s t x y body els id sl ot lo,h=>by
  unfold StL at h ⊢
  obtain⟨cx,cy,a,a',cap,cap',h1,h2,h3,h4,h5,h6,h7⟩:=h
  exact⟨cx,cy,a,a',cap,cap',h1,h2.weak hk,h3.weak hk,h4,StsL.weak hk h5,h6,StsL.weak hk h7⟩
theorem StsL.weak {ok ok':Nat->Prop} {w:World} (hk:∀b,ok b->ok' b):∀ {a:Option Addr} {i:Nat} {l:List St},StsL ok w a i l->StsL ok' w a i l
 |_,_,[],_=>by unfold StsL;trivial
 |a,i,e::r,h=>by
  unfold StsL at h ⊢
  obtain⟨⟨b,off,cs,h1,h2,h3,h4⟩,h5⟩:=h
  exact⟨⟨b,off,cs,h1,hk _ h2,h3,StL.weak hk h4⟩,StsL.weak hk h5⟩
end
instance:Inhabited St:=⟨mkSt 0 (0,0) noB noB zEx zEx [] []⟩
theorem StsL.atF{ok:Nat->Prop}:∀ {l:List St} {i:Nat},StsL ok w a i l->∀j,j<l.length->
  ∃ (b g:Nat) (cs:List Value),a=some ⟨b,g,none⟩/\ok b/\(∀ (t:Nat) (v:Value),cs[t]? =some v->w.cellF ⟨b,g+(i+j)*25+t,none⟩=some v)/\StL ok w cs (l.getD j default)
 | [],_,_,j,hj=>by cases hj
 |e::r,i,h,j,hj=>by
  unfold StsL at h
  obtain⟨⟨b,g,cs,E,D,C,A⟩,F⟩:=h
  cases j with
  |zero=>exact⟨b,g,cs,E,D,C,A⟩
  |succ j=>
   have:=F.atF j (by simpa using hj)
   rw[show i+(j+1)=i+1+j by omega]
   simpa using this
theorem StsL.at{ok:Nat->Prop}{l:List St}(h:StsL ok w a i l)(j:Nat)(hj:j<l.length):
  ∃ (b off:Nat) (cs:List Value),a=some ⟨b,off,none⟩/\ok b/\(∀ (t:Nat) (v:Value),cs[t]? =some v->w.cell? ⟨b,off+(i+j)*25+t,none⟩=some v)/\StL ok w cs (l.getD j default):=by
 obtain⟨b,off,cs,h1,h2,h3,h4⟩:=h.atF j hj;exact⟨b,off,cs,h1,h2,fun t v hv=>World.cellF_cell (h3 t v hv),h4⟩
theorem StsL.mk{ok:Nat->Prop}:∀ {l:List St} {i:Nat},(∀j,j<l.length->∃ (b g:Nat) (cs:List Value),a=some ⟨b,g,none⟩/\ok b/\(∀ (t:Nat) (v:Value),cs[t]? =some v->w.cellF ⟨b,g+(i+j)*25+t,none⟩=some v)/\StL ok w cs (l.getD j default))->StsL ok w a i l
 | [],_,_=>by unfold StsL;trivial
 |e::r,i,h=>by
  unfold StsL
  refine⟨h 0 (by simp),StsL.mk (l:=r) (i:=i+1) fun j A=>?_⟩
  have:=h (j+1) (by simpa using A)
  rw[show i+1+j=i+(j+1) by omega]
  simpa using this
def DeL(ok:Nat->Prop)(w:World)(cs:List Value)(d:De):Prop:=∃ (a:Option Addr) (cap:Nat),cs=[.int .i64 d.kind,.int .i64 d.line,.int .i64 d.col,.string d.name,.int .i64 d.num,.slice a d.body.length cap]/\Roomy d.body.length cap/\StsL ok w a 0 d.body
instance:Inhabited De:=⟨⟨0,0,0,noB,0,[]⟩⟩
def DesL(ok:Nat->Prop)(w:World)(a:Option Addr)(l:List De):Prop:=∀j,j<l.length->∃ (b off:Nat) (cs:List Value),a=some ⟨b,off,none⟩/\ok b/\(∀ (t:Nat) (v:Value),cs[t]? =some v->w.cellF ⟨b,off+j*6+t,none⟩=some v)/\DeL ok w cs (l.getD j default)
theorem DeL.keep{ok:Nat->Prop}{w':World}(j:∀ (b o:Nat) (v:Value),ok b->w.cellF ⟨b,o,none⟩=some v->w'.cellF ⟨b,o,none⟩=some v){cs:List Value}{d:De}(h:DeL ok w cs d):DeL ok w' cs d:=by obtain⟨a,cap,C,g,A⟩:=h;exact⟨a,cap,C,g,A.keep j⟩
theorem DesL.keep{ok:Nat->Prop}{w':World}(A:∀ (b o:Nat) (v:Value),ok b->w.cellF ⟨b,o,none⟩=some v->w'.cellF ⟨b,o,none⟩=some v){l:List De}(h:DesL ok w a l):DesL ok w' a l:=fun j F=>by obtain⟨b,G,cs,H,g,D,C⟩:=h j F;exact⟨b,G,cs,H,g,fun t v E=>A _ _ _ g (D t v E),C.keep A⟩
theorem DeL.weak{ok ok':Nat->Prop}(j:∀b,ok b->ok' b){cs:List Value}{d:De}(h:DeL ok w cs d):DeL ok' w cs d:=by obtain⟨a,cap,C,g,A⟩:=h;exact⟨a,cap,C,g,A.weak j⟩
theorem DesL.weak{ok ok':Nat->Prop}(g:∀b,ok b->ok' b){l:List De}(h:DesL ok w a l):DesL ok' w a l:=fun j D=>by obtain⟨b,F,cs,G,E,C,A⟩:=h j D;exact⟨b,F,cs,G,g _ E,C,A.weak g⟩
section
variable (T:List Wd)
theorem pE_more:∀d f n i R,pE T f n i=some R->pE T (f+d) n i=some R:=by
 intro d;induction d with
 |zero=>intro f n i R h;exact h
 |succ d g=>intro f n i R h;exact(pMono T (f+d)).1 n i R (g f n i R h)
theorem pE_adv{f:Nat}{x:Ex}(A:i<=T.length)(h:pE T f n i=some (.ok (x,j))):i<j/\j<=T.length:=by obtain⟨R,g,C⟩:=(pTotal T (f+(4* (T.length-i)+3))).1 n i A (by omega);have w:=pE_more T (4* (T.length-i)+3) f n i _ h;rw[w]at g;cases g;exact C _ _ z
end
theorem pE_zero(T:List Wd)(n i:Nat):pE T 0 n i=none:=by unfold pE;rfl
theorem pU_zero(T:List Wd)(i:Nat):pU T 0 i=none:=by unfold pU;rfl
theorem pP_zero(T:List Wd)(i:Nat):pP T 0 i=none:=by unfold pP;rfl
theorem rankOf_le(o:Nat):rankOf o<=5:=by
 by_cases h:o<12
 .have:∀o,o<12->rankOf o<=5:=by decide
  exact this o h
 .have:rankOf o=0:=by unfold rankOf;rw[List.getD_eq_getElem?_getD,List.getElem?_eq_none (by simp[opR];omega)];rfl
  omega
theorem andT_inv{g w:Type}{x:PR g}{k:g->Nat->PR w}{r:w×Nat}(h:andT x k=some (.ok r)):∃a j,x=some (.ok (a,j))/\k a j=some (.ok r):=by
 rcases x with _| (j|⟨a,j⟩)
 .cases h
 .cases h
 .exact⟨a,j,z,h⟩
section
variable (T:List Wd)
theorem pX_go{x:Ex}(w:i<=T.length)(h:pX T i=some (.ok (x,j))):i<j/\j<=T.length:=by obtain⟨R,A,g⟩:=pX_total T w;rw[A]at h;cases h;exact g _ _ z
theorem pPlain_adv{p:Int×Int}{s:St}(w:i<=T.length)(h:pPlain T p k i=some (.ok (s,j))):i<j/\j<=T.length:=by obtain⟨R,A,g⟩:=pPlain_total T p k w;rw[A]at h;cases h;exact g _ _ z
theorem pAssign_adv{p:Int×Int}{s:St}(w:i<=T.length)(h:pAssign T p i=some (.ok (s,j))):i<j/\j<=T.length:=by obtain⟨R,A,g⟩:=pAssign_total T p w;rw[A]at h;cases h;exact g _ _ z
theorem pS_adv:∀f,
  (∀i l j,i<=T.length->pB T f i=some (.ok (l,j))->i<j/\j<=T.length)/\(∀acc i l j,i<=T.length->pSs T f acc i=some (.ok (l,j))->i<j/\j<=T.length)/\
  (∀i s j,i<=T.length->pS T f i=some (.ok (s,j))->i<j/\j<=T.length):=by
 intro f;induction f with
 |zero=>exact⟨fun _ _ _ _ h=>by simp[pB]at h,fun _ _ _ _ _ h=>by simp[pSs]at h,fun _ _ _ _ h=>by simp[pS]at h⟩
 |succ f N=>
  obtain⟨H,J,K⟩:=N;refine⟨fun i l j D h=>?_,fun acc i l j D h=>?_,fun i s j D h=>?_⟩
  .rw[pB]at h;obtain⟨_,k,A,g⟩:=andT_inv h;have C:=want_ok T A;have w:=J _ _ _ _ (by omega) g;omega
  .rw[pSs]at h;split at h
   .rename_i E;have:=isT_lt T E;cases h;omega
   .obtain⟨s,k,A,g⟩:=andT_inv h;have C:=K _ _ _ D A;have w:=J _ _ _ _ C.2 g;omega
  .rw[pS]at h;split at h
   .exact pAssign_adv T D h
   split at h
   .cases h
   rename_i W E;have R:kindAt T i=3:=by
    rcases Int.decEq (kindAt T i) 3 with h|h
    .exact absurd (.inl h) E
    .exact h
   have G:=kind_lt T (i:=i) (by rw[R];decide);split at h
   .obtain⟨x,k,A,g⟩:=andT_inv h;obtain⟨b,m,C,w⟩:=andT_inv g;have F:=pX_go T G A;have U:=H _ _ _ F.2 C;cases w;omega
   split at h
   .obtain⟨x,k,A,g⟩:=andT_inv h;obtain⟨b,m,C,w⟩:=andT_inv g;have F:=pX_go T G A;have U:=H _ _ _ F.2 C;split at w
    .rename_i Q;have:=isT_lt T Q;obtain⟨c,n,S,M⟩:=andT_inv w;have V:=H _ _ _ (by omega) S;cases M;omega
    .cases w;omega
   .have:=pPlain_adv T G h;omega
theorem pD_adv{d:De}(w:i<=T.length)(h:pD T i=some (.ok (d,j))):i<j/\j<=T.length:=by obtain⟨R,A,g⟩:=pD_total T w;rw[A]at h;cases h;exact g _ _ z
theorem pS_zero(i:Nat):pS T 0 i=none:=by unfold pS;rfl
theorem pB_zero(i:Nat):pB T 0 i=none:=by unfold pB;rfl
theorem pSs_zero(acc:List St)(i:Nat):pSs T 0 acc i=none:=by unfold pSs;rfl
end
def WPost(w:World)(b:Nat)(s:ByteArray)(k:Nat)(kw sg:Value)(kind:Int)(e:Nat)(num err:Int)(x:Ending)(w':World):Prop:=
 x= .returned (.tuple #[.agg #[.int .i64 kind,.string (s.extract k e),.int .i64 num,.int .i64 (posAt s k).1,.int .i64 (posAt s k).2],.int .i64 err])/\Rd w' b s e kw sg/\Kp w w' b b
abbrev zTok:Obj:= .cells #[.int .i64 0,.string ⟨#[]⟩,.int .i64 0,.int .i64 0,.int .i64 0] 142
abbrev pTok (p:Int×Int):Obj:= .cells #[.int .i64 0,.string ⟨#[]⟩,.int .i64 0,.int .i64 p.1,.int .i64 p.2] 142
theorem owns_set{D:DataW Unit}(h:w.ownsMap Tryz.prog 9 (plainElem Tryz.prog 3) g n D){r:Nat}(j:g≠r)(k:Nat)(u:Value):(w.setCell ⟨r,k,none⟩ u).ownsMap Tryz.prog 9 (plainElem Tryz.prog 3) g n D:=by obtain⟨F,E,A,C⟩:=h;exact⟨F,E,(Below.heap_setCell w ⟨r,k,none⟩ u g j).trans A,C⟩
theorem word_let{gk:Nat}(hR:Rd w b s k (.map (some gk)) v0)(hO:w.ownsMap Tryz.prog 9 (plainElem Tryz.prog 3) gk 20 (Lst kwL 20))(Y:gk≠b)(hk:k<s.size)(hs:s.size<=4294967296)
  (hc:isLet (byte s k)=true):
  Calls Tryz.prog 105 #[Pt b] w (WPost w b s k (.map (some gk)) v0 (if isKw (s.extract k (endOf isAny s k)).data.toList then 3 else 1) (endOf isAny s k) 0 (if isKw (s.extract k (endOf isAny s k)).data.toList then 0 else if 16<endOf isAny s k-k then 111 else 0)):=by
 have a2:=hR.alloc zTok;have b0:=a2.c0;have b1:=a2.c1;have b9:=endOf_le (f:=isAny) (Nat.le_of_lt hk);obtain⟨E,hE⟩:=eX (endOf isAny s k);have HE:=O hE;rw[hE]at b9 ⊢;clear hE;obtain⟨T,Z⟩:=eX (s.extract k E);have b6:T.size=E-k:=by rw[<-Z,ByteArray.size_extract];omega
 obtain⟨kd,a1⟩:∃kd:Int,(if isKw (s.extract k E).data.toList then 3 else 1)=kd:=⟨_,z⟩;obtain⟨er,V⟩:∃er:Int,(if isKw (s.extract k E).data.toList then 0 else if 16<E-k then 111 else 0)=er:=⟨_,z⟩;rw[a1,V];rw[Z]at a1 V;rw[<-b6]at V;have b8:=O a1;have b7:=O V;have HT:=O Z;have f2:=O b6;clear a1 V Z b6;have hZ:Tk (w.alloc zTok) w.1.size 0 ⟨#[]⟩ 0 (0,0):=World.alloc_heap_new _ _;have d5:=hZ.alloc (pTok (posAt s k));have hP:Tk ((w.alloc zTok).alloc (pTok (posAt s k))) (w.1.size+1) 0 ⟨#[]⟩ 0 (posAt s k):=by have h:Tk ((w.alloc zTok).alloc (pTok (posAt s k))) (w.alloc zTok).1.size 0 ⟨#[]⟩ 0 (posAt s k):=World.alloc_heap_new _ _;rw[World.size_alloc]at h;exact h
 have X:=a2.alloc (pTok (posAt s k));have a4:Kp w ((w.alloc zTok).alloc (pTok (posAt s k))) b b:=((Kp.refl w b b).alloc _).alloc _;have e3:=owns_keep hO a4 Y Y;have f4:=hR.lt;have f3:=hO.lt;go_in;go_wp2;change Code.wp _ _ _ _ ((w.alloc zTok).alloc (pTok (posAt s k)));clear a2 hZ hR hO b0 b1;generalize (w.alloc zTok).alloc (pTok (posAt s k))=W0 at *;have b2:=X.c2;have b3:=X.c3;have hz:(k:Int)< (s.size:Int):=by omega
 have f1:=byte_at hk;obtain⟨c,R⟩:=eX (byte s k);rw[R]at f1 hc;clear R;go_quiet (fail);rename_i nq;obtain⟨K,D⟩:=eX (W0.drewN nq);have a6:Tk K w.1.size 0 ⟨#[]⟩ 0 (0,0):=D▸d5;have a8:Tk K (w.1.size+1) 0 ⟨#[]⟩ 0 (posAt s k):=D▸hP;have e9:Rd K b s k (.map (some gk)) v0:=D▸X;have d8:Kp w K b b:=by rw[<-D];exact a4.drewN nq
 have c8:K.ownsMap Tryz.prog 9 (plainElem Tryz.prog 3) gk 20 (Lst kwL 20):=D▸e3;rw[D];clear D d5 hP X a4 e3 b2 b3;go_wp2_with fail;apply (letter_any c _).mono;rw[hc];rintro e w' ⟨rfl,rfl⟩;go_wp2_with fail;apply (pass_name e9 (Nat.le_of_lt hk) hs).mono;rintro e W2 ⟨rfl,a9,M⟩;rw[HE.o]at a9 ⊢;rw[HT.o];have e7:=d8.trans M;have e8:=a6.of (M.block _ a6.lt (by omega) (by omega));have G:=a8.of (M.block _ a8.lt (by omega) (by omega));have c9:=owns_keep c8 M Y Y;clear a6 a8 e9 d8 c8 M;have d0:=G.c0;have d1:=G.c1;have e0:=G.frozen 0;have e1:=G.frozen 1;go_wp2;change Code.wp _ _ _ _ ((W2.setCell ⟨w.1.size+1,1,none⟩ (.string T)).setCell ⟨w.1.size+1,0,none⟩ (I 1));have b5:=(G.set1 T).set0 1
 have d7:=(e8.other (r:=w.1.size+1) (by omega) 1 (.string T)).other (r:=w.1.size+1) (by omega) 0 (I 1);have a7:=(a9.other (r:=w.1.size+1) (by omega) 1 (.string T)).other (r:=w.1.size+1) (by omega) 0 (I 1);have d9:=(e7.setNew (r:=w.1.size+1) (by omega) 1 (.string T)).setNew (r:=w.1.size+1) (by omega) 0 (I 1);have e4:=owns_set (owns_set c9 (r:=w.1.size+1) (by omega) 1 (.string T)) (r:=w.1.size+1) (by omega) 0 (I 1);clear G e8 a9 e7 c9 d0 d1 e0 e1;generalize (W2.setCell ⟨w.1.size+1,1,none⟩ (.string T)).setCell ⟨w.1.size+1,0,none⟩ (I 1)=W4 at *;have d6:T.size<=maxLen:=by rw[f2.o];exact Nat.le_trans (Nat.le_trans (Nat.sub_le _ _) b9.2) (Nat.le_trans hs (by decide))
 have e6:∀n,(Instr.lookup 148 (.map (some gk)) (.string T) false).run Tryz.prog (W4.drewN n)= .ok (I (lastOf kwL T.data.toList 20)) (W4.drewN n):=fun n=>look_at (W:=W4.drewN n) e4 T d6;have e2:=kw_pos T.data.toList;obtain⟨cc,R⟩:=eX (lastOf kwL T.data.toList 20);rw[R]at e6 e2;obtain⟨q,hq⟩:=eX (isKw T.data.toList);rw[hq]at e2;have U:=O hq;clear R hq d6 e4;have b4:=a7.c4;have d1:=b5.c1;go_quiet (fail);rename_i nq;obtain⟨C,F⟩:=eX (W4.drewN nq);have g:Tk C w.1.size 0 ⟨#[]⟩ 0 (0,0):=F▸d7;have H:Tk C (w.1.size+1) 1 T 0 (posAt s k):=F▸b5;have a3:Rd C b s E (.map (some gk)) v0:=F▸a7;have a5:Kp w C b b:=by rw[<-F];exact d9.drewN nq
 rw[F];clear F d7 b5 a7 d9 b4 d1 e6;have d0:=H.c0;have d1:=H.c1;have d2:=H.c2;have d3:=H.c3;have d4:=H.c4;have e0:=H.frozen 0;have z0:=g.c0;have z1:=g.c1;have z2:=g.c2;have z3:=g.c3;have z4:=g.c4;have y0:=g.frozen;have fin:∀ (W:World) (x:Int) (v:Int),Tk W w.1.size 0 ⟨#[]⟩ 0 (0,0)->Rd W b s E (.map (some gk)) v0->Kp w W b b->x=kd->v=er->
   let W':=((((W.setCell ⟨w.1.size,0,none⟩ (I x)).setCell ⟨w.1.size,1,none⟩ (.string T)).setCell ⟨w.1.size,2,none⟩ (I 0)).setCell ⟨w.1.size,3,none⟩ (I (posAt s k).1)).setCell ⟨w.1.size,4,none⟩ (I (posAt s k).2)
   Tk W' w.1.size x T 0 ((posAt s k).1,(posAt s k).2)/\WPost w b s k (.map (some gk)) v0 kd E 0 er (.returned (.tuple #[.agg #[I x,.string T,I 0,I (posAt s k).1,I (posAt s k).2],I v])) W':=by
  intro W x v h1 h2 h3 hx hv;subst hx hv;have A:b≠w.1.size:=by omega
  refine⟨h1.set5 x T 0 _ _,by rw[HT.o],((((h2.other A 0 _).other A 1 _).other A 2 _).other A 3 _).other A 4 _,?_⟩;exact((((h3.setNew rl 0 _).setNew rl 1 _).setNew rl 2 _).setNew rl 3 _).setNew rl 4 _
 have HF:=O fin;clear fin;cases q
 .have S:(1:Int)=kd:=by have h:=b8.o;rw[U.o]at h;simpa using h
  have a0:=O S;clear S;by_cases e5:16<T.size
  .have f0:(16:Int)< (T.size:Int):=by omega
   have j:(111:Int)=er:=by have h:=b7.o;rw[U.o]at h;simpa [e5]using h
   have N:=O j;clear j;go_wp2;obtain⟨J,Q⟩:=HF C 1 111 g a3 a5 a0 N;exact end_tk J z z z z Q
  .have f0:¬ (16:Int)< (T.size:Int):=by omega
   have j:(0:Int)=er:=by have h:=b7.o;rw[U.o]at h;simpa [e5]using h
   have N:=O j;clear j;go_wp2;obtain⟨J,Q⟩:=HF C 1 0 g a3 a5 a0 N;exact end_tk J z z z z Q
 .have S:(3:Int)=kd:=by have h:=b8.o;rw[U.o]at h;simpa using h
  have j:(0:Int)=er:=by have h:=b7.o;rw[U.o]at h;simpa using h
  have a0:=O S;have N:=O j;clear S j;go_wp2;have A:b≠w.1.size+1:=by omega
  obtain⟨J,Q⟩:=HF (C.setCell ⟨w.1.size+1,0,none⟩ (I 3)) 3 0 (g.other (by omega) 0 _) (a3.other A 0 _) (a5.setNew (by omega) 0 _) a0 N;exact end_tk J z z z z Q
section
variable (T:List Wd)
theorem dep1(k n:Int)(s:ByteArray)(sl:Int)(lo:Bool)(o:Int):(Ex.mk k n s sl lo o []).depth=1:=by simp[Ex.depth,Ex.depths]
theorem dep2(k n:Int)(s:ByteArray)(sl:Int)(lo:Bool)(o:Int)(x:Ex):(Ex.mk k n s sl lo o [x]).depth=x.depth+1:=by simp[Ex.depth,Ex.depths]
theorem dep3(k n:Int)(s:ByteArray)(sl:Int)(lo:Bool)(o:Int)(x y:Ex):(Ex.mk k n s sl lo o [x,y]).depth=max x.depth y.depth+1:=by simp[Ex.depth,Ex.depths]
end
structure Th where
 name:ByteArray
 locals:Nat
 body:List St
instance:Inhabited Th:=⟨⟨noB,0,[]⟩⟩
structure Pg where
 vars:List Int
 arrays:List Int
 mutexes:Nat
 conds:Nat
 chans:List Int
 threads:List Th
 main:Nat
 stmts:Nat
 nv:List ByteArray
 na:List ByteArray
 nm:List ByteArray
 nc:List ByteArray
 nh:List ByteArray
def zPg:Pg:=⟨[],[],0,0,[],[],0,0,[],[],[],[],[]⟩
structure Nm where
 text:ByteArray
 kind:Nat
 slot:Nat
abbrev Flw:=(Int×Int)×Int
def lkN(L:List Nm)(s:ByteArray):Option Nm:=L.find? fun x=>decide (x.text=s)
def fnd(L:List Nm)(s:ByteArray)(kind:Nat)(loc:Bool)(p:Int×Int):Except Flw Nm:=
 match lkN L s with
 |none=> .error (p,131)
 |some x=>if x.kind≠kind/\¬ (loc=true/\x.kind=0) then .error (p,132) else .ok x
mutual
def fEx (L:List Nm) (p:Int×Int):Ex->Except Flw Ex
 | .mk k n s sl lo o args=>
  match (if k=2 then (fnd L s 1 true p).map fun x=> ((x.slot:Int),decide (x.kind=0)) else if k=3 then (fnd L s 2 false p).map fun x=> ((x.slot:Int),lo) else .ok (sl,lo)) with
  | .error e=> .error e
  | .ok (sl',lo')=> (match fExs L p args with| .error e=> .error e| .ok l=> .ok (.mk k n s sl' lo' o l))
def fExs (L:List Nm) (p:Int×Int):List Ex->Except Flw (List Ex)
 | []=> .ok []
 |x::r=>match fEx L p x with
  | .error e=> .error e
  | .ok y=> (match fExs L p r with| .error e=> .error e| .ok l=> .ok (y::l))
end
def wantN(k:Int):Option (Nat×Bool):=if k=2 then some (1,true) else if k=3 then some (2,false) else if k=6∨k=7 then some (3,false) else if k=8∨k=9∨k=10 then some (4,false) else if k=11∨k=12 then some (5,false) else if k=13 then some (6,false) else none
def wantW(k:Int):Option (Nat×Bool):=if k=8 then some (3,false) else if k=12 then some (1,true) else none
def stHead(L:List Nm)(loc:Nat)(p:Int×Int)(k:Int)(s t:ByteArray)(sl ot:Int)(lo:Bool):Except Flw (Int×Int×Bool):=
 if k=1 then (if (lkN L s).isSome then .error (p,130) else if loc=32 then .error (p,134) else .ok ((loc:Int),ot,true))
 else match wantN k with
 |none=> .ok (sl,ot,lo)
 |some (q,b)=>match fnd L s q b p with
  | .error e=> .error e
  | .ok x=>match wantW k with
   |none=> .ok ((x.slot:Int),ot,if b then decide (x.kind=0) else lo)
   |some (q2,b2)=>match fnd L t q2 b2 p with
    | .error e=> .error e
    | .ok y=> .ok ((x.slot:Int),(y.slot:Int),if b2 then decide (y.kind=0) else if b then decide (x.kind=0) else lo)
mutual
def fSt (L:List Nm) (loc:Nat) (n mo:Nat):St->Except Flw (St×Nat×Nat)
 | .mk k l c s t x y body els _ sl ot lo=>
  if n=512 then .error ((l,c),134) else
  match fEx L (l,c) y with
  | .error e=> .error e
  | .ok y'=>match fEx L (l,c) x with
   | .error e=> .error e
   | .ok x'=>match stHead L loc (l,c) k s t sl ot lo with
    | .error e=> .error e
    | .ok (sl',ot',lo')=>match fSts L loc (n+1) mo body with
     | .error e=> .error e
     | .ok (body',n2,mo2)=>match fSts L loc n2 mo2 els with
      | .error e=> .error e
      | .ok (els',n3,mo3)=> .ok (.mk k l c s t x' y' body' els' (n:Int) sl' ot' lo',n3,mo3)
def fSts (L:List Nm) (loc:Nat) (n mo:Nat):List St->Except Flw (List St×Nat×Nat)
 | []=> .ok ([],n,mo)
 |s::r=>match fSt L loc n mo s with
  | .error e=> .error e
  | .ok (s',n2,mo2)=>
   (match (match s with
     | .mk k _ _ nm _ _ _ _ _ _ _ _ _=>if k=1 then fSts (L++[Nm.mk nm 0 loc]) (loc+1) n2 (max mo2 (loc+1)) r else fSts L loc n2 mo2 r) with
   | .error e=> .error e
   | .ok (r',n3,mo3)=> .ok (s'::r',n3,mo3))
end
def dcl(P:Pg)(L:List Nm)(cells:Int)(i:Nat)(d:De):Except Flw (Pg×List Nm×Int):=
 let p:=(d.line,d.col)
 if (lkN L d.name).isSome then .error (p,130) else
 match (show Except Flw (Pg×Nat×Int) from if d.kind=1 then .ok ({P with vars:=P.vars++[d.num],nv:=P.nv++[d.name]},P.vars.length,cells)
  else if d.kind=2 then (if d.num<1∨256<d.num∨256<cells+d.num then .error (p,134) else .ok ({P with arrays:=P.arrays++[d.num],na:=P.na++[d.name]},P.arrays.length,cells+d.num))
  else if d.kind=3 then .ok ({P with mutexes:=P.mutexes+1,nm:=P.nm++[d.name]},P.mutexes,cells)
  else if d.kind=4 then .ok ({P with conds:=P.conds+1,nc:=P.nc++[d.name]},P.conds,cells)
  else if d.kind=5 then (if d.num<1∨16<d.num then .error (p,134) else .ok ({P with chans:=P.chans++[d.num],nh:=P.nh++[d.name]},P.chans.length,cells))
  else .ok ({P with threads:=P.threads++[Th.mk d.name 0 []]},P.threads.length,cells)) with
 | .error e=> .error e
 | .ok (P',sl,cells')=>if 64<=i then .error (p,134) else .ok (P',L++[Nm.mk d.name d.kind.toNat sl],cells')
def dcls(P:Pg)(L:List Nm)(cells:Int):Nat->List De->Except Flw (Pg×List Nm)
 |_,[]=> .ok (P,L)
 |i,d::r=>match dcl P L cells i d with
  | .error e=> .error e
  | .ok (P',L',cells')=>dcls P' L' cells' (i+1) r
def bods(L:List Nm):Nat->List De->Except Flw (List (List St×Nat)×Nat)
 |n,[]=> .ok ([],n)
 |n,d::r=>if d.kind=6 then (match fSts L 0 n 0 d.body with
   | .error e=> .error e
   | .ok (b,n2,mo)=>match bods L n2 r with
    | .error e=> .error e
    | .ok (l,n3)=> .ok ((b,mo)::l,n3))
  else bods L n r
def putTh:List Th->List (List St×Nat)->List Th
 |t::r,(b,mo)::q=>⟨t.name,mo,b⟩::putTh r q
 |l,_=>l
def wMain:ByteArray:=⟨#[109,97,105,110]⟩
def findR(l:List De):Pg× (Int×Int)×Int:=
 match dcls zPg [] 0 0 l with
 | .error e=> (zPg,e.1,e.2)
 | .ok (P,L)=>match lkN L wMain with
  |none=> (zPg,(0,0),133)
  |some x=>if x.kind≠6 then (zPg,(0,0),133) else match bods L 0 l with
   | .error e=> (zPg,e.1,e.2)
   | .ok (bs,n)=> ({P with main:=x.slot,threads:=putTh P.threads bs,stmts:=n},(0,0),0)
end Go.Proofs.YtgppcdfgdaggjaaGreatDoor
