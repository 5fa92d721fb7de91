/- Texts laid together. No condition but what each law says. -/
import Derived.Test.YtgppcdfgdaggjaaGreatDoorR36
namespace Go.Proofs.YtgppcdfgdaggjaaGreatDoor
open Go.RowKit
variable {b i j k m n:Nat}{e:Ex}{s:ByteArray}
section
variable (T:List Wd)
def xE(n i:Nat):PR Ex:=pE T (4*T.length+4) n i
def xL(n m:Nat)(l:Ex)(i:Nat):PR Ex:=pL T (4*T.length+4) n m l i
def xU(i:Nat):PR Ex:=pU T (4*T.length+4) i
def xP(i:Nat):PR Ex:=pP T (4*T.length+4) i
theorem pE_x{f:Nat}(hi:i<=T.length)(hf:f+1=4*T.length+4)(hb:4* (T.length-i)+3<=f):pE T f n i=xE T n i:=by obtain⟨R,hR,_⟩:=(pTotal T f).1 n i hi hb;rw[hR,xE,<-hf,(pMono T f).1 _ _ _ hR]
theorem pL_x{f:Nat}{l:Ex}(hi:i<=T.length)(hf:f+1=4*T.length+4)(hb:4* (T.length-i)+1<=f):pL T f n m l i=xL T n m l i:=by obtain⟨R,hR,_⟩:=(pTotal T f).2.1 n m l i hi hb;rw[hR,xL,<-hf,(pMono T f).2.1 _ _ _ _ _ hR]
theorem pU_x{f:Nat}(hi:i<=T.length)(hf:f+1=4*T.length+4)(hb:4* (T.length-i)+2<=f):pU T f i=xU T i:=by obtain⟨R,hR,_⟩:=(pTotal T f).2.2.1 i hi hb;rw[hR,xU,<-hf,(pMono T f).2.2.1 _ _ hR]
theorem pP_x{f:Nat}(hi:i<=T.length)(hf:f+1=4*T.length+4)(hb:4* (T.length-i)+1<=f):pP T f i=xP T i:=by obtain⟨R,hR,_⟩:=(pTotal T f).2.2.2 i hi hb;rw[hR,xP,<-hf,(pMono T f).2.2.2 _ _ hR]
theorem xU_adv{x:Ex}(hi:i<=T.length)(h:xU T i=some (.ok (x,j))):i<j/\j<=T.length:=by obtain⟨R,hR,hA⟩:=(pTotal T (4*T.length+4)).2.2.1 i hi (by omega);rw[xU,hR]at h;exact hA x j (Option.some.inj h)
theorem xE_adv{x:Ex}(hi:i<=T.length)(h:xE T n i=some (.ok (x,j))):i<j/\j<=T.length:=by obtain⟨R,hR,hA⟩:=(pTotal T (4*T.length+4)).1 n i hi (by omega);rw[xE,hR]at h;exact hA x j (Option.some.inj h)
theorem andT_congr{α β:Type}{x:PR α}{k k':α->Nat->PR β}(h:∀a j,x=some (.ok (a,j))->k a j=k' a j):andT x k=andT x k':=by
 rcases x with _| (j|⟨a,j⟩)
 .rfl
 .rfl
 .exact h a j z
theorem xE_eq(hi:i<=T.length):xE T n i=andT (xU T i) fun l j=>xL T n 6 l j:=by rw[xE,show 4*T.length+4=(4*T.length+3)+1 from rfl,pE,pU_x T hi rfl (by omega)];exact andT_congr fun a j h=>pL_x T (xU_adv T hi h).2 z (by omega)
theorem xL_eq{l:Ex}(_hi:i<=T.length):xL T n m l i=if opAt T i=0∨rankOf (opAt T i)<n∨m<rankOf (opAt T i) then some (.ok (l,i))
  else andT (xE T (rankOf (opAt T i)+1) (i+1)) fun x j=>xL T n (nextM (rankOf (opAt T i))) (exBin (opAt T i) l x) j:=by
 rw[xL,show 4*T.length+4=(4*T.length+3)+1 from rfl,pL];split
 .rfl
 .rename_i hc;have hlt:=opAt_lt T (fun e=>hc (.inl e));rw[pE_x T (by omega) rfl (by omega)];exact andT_congr fun a j h=>pL_x T (xE_adv T (by omega) h).2 z (by omega)
theorem xU_eq(hi:i<=T.length):xU T i=if isT T i sMinus=true then andT (xU T (i+1)) fun x j=>some (.ok (exNeg x,j))
  else if isT T i sNot=true then andT (xU T (i+1)) fun x j=>some (.ok (exNot x,j)) else xP T i:=by
 rw[xU,show 4*T.length+4=(4*T.length+3)+1 from rfl,pU];split
 .rename_i hc;have:=isT_lt T hc;rw[pU_x T (by omega) rfl (by omega)]
 split
 .rename_i hc;have:=isT_lt T hc;rw[pU_x T (by omega) rfl (by omega)]
 .exact pP_x T hi z (by omega)
theorem xP_eq(_hi:i<=T.length):xP T i=if isT T i sOpen=true then andT (xE T 1 (i+1)) fun x j=>andT (want T sShut j) fun _ k=>some (.ok (x,k))
  else if kindAt T i=2 then some (.ok (exNum (T.getD i default).num,i+1))
  else andT (pName T i) fun s j=>if isT T j sBrO=true then andT (xE T 1 (j+1)) fun x k=>andT (want T sBrS k) fun _ m=>some (.ok (exCell s x,m)) else some (.ok (exName s,j)):=by
 rw[xP,show 4*T.length+4=(4*T.length+3)+1 from rfl,pP];split
 .rename_i hc;have:=isT_lt T hc;rw[pE_x T (by omega) rfl (by omega)]
 split
 .rfl
 .refine andT_congr fun s j h=>?_;obtain⟨rfl,h2⟩:=pName_ok T h;split
  .rename_i hc;have:=isT_lt T hc;rw[pE_x T (by omega) rfl (by omega)]
  .rfl
end
structure Ky where
 kind:Int
 text:ByteArray
 num:Int
instance:Inhabited Ky:=⟨⟨0,noB,0⟩⟩
def stp(t:Wd):Ky:=⟨t.kind,t.text,t.num⟩
def tkS(s:ByteArray):Ky:=⟨4,s,0⟩
def tkK(s:ByteArray):Ky:=⟨3,s,0⟩
def tkN(s:ByteArray):Ky:=⟨1,s,0⟩
def tkI(n:Int):Ky:=⟨2,bS (Lib.itoa n),n⟩
def AtT(T:List Wd)(i:Nat)(U:List Ky):Prop:=∀j,j<U.length->i+j<T.length/\stp (T.getD (i+j) default)=U.getD j default
theorem AtT.cons{T:List Wd}{u:Ky}{V:List Ky}(h:AtT T i (u::V)):i<T.length/\stp (T.getD i default)=u/\AtT T (i+1) V:=
 ⟨(h 0 (by simp)).1,(h 0 (by simp)).2,fun j hj=>by have:=h (j+1) (by simpa using hj);rw[show i+(j+1)=i+1+j by omega]at this;simpa using this⟩
theorem AtT.left{T:List Wd}{U V:List Ky}(h:AtT T i (U++V)):AtT T i U:=fun j hj=>by have:=h j (by rw[List.length_append];omega);rw[List.getD_eq_getElem?_getD,List.getD_eq_getElem?_getD,List.getElem?_append_left hj]at this;rwa [List.getD_eq_getElem?_getD,List.getD_eq_getElem?_getD]
theorem AtT.right{T:List Wd}{U V:List Ky}(h:AtT T i (U++V)):AtT T (i+U.length) V:=fun j hj=>by have:=h (U.length+j) (by rw[List.length_append];omega);rw[List.getD_eq_getElem?_getD,List.getD_eq_getElem?_getD,List.getElem?_append_right (by omega),show U.length+j-U.length=j by omega,<-Nat.add_assoc]at this;rwa [List.getD_eq_getElem?_getD,List.getD_eq_getElem?_getD]
theorem AtT.len{T:List Wd}{U:List Ky}(h:AtT T i U)(hi:i<=T.length):i+U.length<=T.length:=by
 rcases Nat.eq_zero_or_pos U.length with h0|h0
 .omega
 .have:=(h (U.length-1) (by omega)).1;omega
section
variable {T:List Wd} {i:Nat} {u:Ky}
theorem kind_of(hi:i<T.length)(h:stp (T.getD i default)=u):kindAt T i=u.kind:=by rw[<-h,kindAt,if_pos hi];rfl
theorem text_of(h:stp (T.getD i default)=u):(T.getD i default).text=u.text:=by rw[<-h];rfl
theorem num_of(h:stp (T.getD i default)=u):(T.getD i default).num=u.num:=by rw[<-h];rfl
theorem isT_of(hi:i<T.length)(h:stp (T.getD i default)=u)(s:ByteArray):isT T i s=((decide (u.kind=3)||decide (u.kind=4))&&decide (u.text=s)):=by rw[isT,<-h,decide_eq_true hi,Bool.true_and];rfl
theorem opAt_of(hi:i<T.length)(h:stp (T.getD i default)=u):opAt T i=if u.kind=4 then opOf u.text else 0:=by rw[opAt,kind_of hi h,text_of h]
end
mutual
def exZn:Ex->Ex
 | .mk k n s _ _ o args=> .mk k n s 0 false o (exZs args)
def exZs:List Ex->List Ex
 | []=> []
 |x::r=>exZn x::exZs r
end
def parK(b n:Nat)(t:List Ky):List Ky:=if b<n then tkS sOpen::(t++[tkS sShut]) else t
def tkE:Ex->List Ky
 | .mk k n s _ _ _ []=>if k=1 then [tkI n] else [tkN s]
 | .mk k _ s _ _ _ [x]=>if k=3 then tkN s::tkS sBrO::(tkE x++[tkS sBrS]) else tkS (if k=4 then sMinus else sNot)::parK x.bind 6 (tkE x)
 | .mk _ _ _ _ _ o [x,y]=>parK x.bind (if rankOf o.toNat=3 then 4 else rankOf o.toNat) (tkE x)++(tkS (opS.getD o.toNat noB)::parK y.bind (rankOf o.toNat+1) (tkE y))
 |_=> []
def Mx(b:Nat):Nat:=if 6<=b then 6 else nextM b
structure PE (T:List Wd) (e:Ex):Prop where
 ex:∀n i,1<=n->n<=e.bind->i<=T.length->AtT T i (tkE e)->isT T (i+(tkE e).length) sBrO=false->(opAt T (i+(tkE e).length)=0∨6<=e.bind∨rankOf (opAt T (i+(tkE e).length))<=e.bind)->xE T n i=xL T n (Mx e.bind) (exZn e) (i+(tkE e).length)
 un:∀i,6<=e.bind->i<=T.length->AtT T i (tkE e)->isT T (i+(tkE e).length) sBrO=false->xU T i=some (.ok (exZn e,i+(tkE e).length))
theorem PE.of_un{T:List Wd}(h6:6<=e.bind)(h:∀i,i<=T.length->AtT T i (tkE e)->isT T (i+(tkE e).length) sBrO=false->xU T i=some (.ok (exZn e,i+(tkE e).length))):PE T e:=by refine⟨fun n i _ _ hi hA hb _=>?_,fun i _ hi hA hb=>h i hi hA hb⟩;rw[xE_eq T hi,h i hi hA hb,andT_ok,Mx,if_pos h6]
theorem xL_stop{T:List Wd}{l:Ex}(hj:j<=T.length)(h:opAt T j=0∨rankOf (opAt T j)<n):xL T n m l j=some (.ok (l,j)):=by rw[xL_eq T hj,if_pos (by omega)]
theorem paren{T:List Wd}(h:PE T e)(hb:1<=e.bind)(hi:i<=T.length)(hA:AtT T i (tkS sOpen::(tkE e++[tkS sShut]))):xU T i=some (.ok (exZn e,i+((tkE e).length+2))):=by
 obtain⟨h1,h2,h3⟩:=hA.cons;have h4:=h3.left;obtain⟨h5,h6,_⟩:=h3.right.cons;have e1:isT T i sMinus=false:=by rw[isT_of h1 h2];decide +kernel
 have e2:isT T i sNot=false:=by rw[isT_of h1 h2];decide +kernel
 have e3:isT T i sOpen=true:=by rw[isT_of h1 h2];decide +kernel
 have e4:opAt T (i+1+(tkE e).length)=0:=by rw[opAt_of h5 h6];decide +kernel
 have e5:isT T (i+1+(tkE e).length) sShut=true:=by rw[isT_of h5 h6];decide +kernel
 have e6:isT T (i+1+(tkE e).length) sBrO=false:=by rw[isT_of h5 h6];decide +kernel
 rw[xU_eq T hi,e1,e2,if_neg (by decide),if_neg (by decide),xP_eq T hi,e3,if_pos rfl,h.ex 1 (i+1) (Nat.le_refl _) hb (by omega) h4 e6 (.inl e4),xL_stop (by omega) (.inl e4),andT_ok,want,e5,if_pos rfl,andT_ok];rw[show i+1+(tkE e).length+1=i+((tkE e).length+2) by omega]
theorem bind_pos(nm:ByteArray->Bool):∀ (e:Ex) (d:Nat),exR nm e d=true->1<=e.bind:=by
 intro e d h;obtain⟨k,n,s,sl,lo,o,args⟩:=e;simp only[Ex.bind];split
 .rename_i hk;match args with
  | []=>simp[exR,hk]at h
  | [x]=>simp[exR,hk]at h
  | [x,y]=>
   simp only[exR,Bool.and_eq_true,decide_eq_true_eq]at h;have h1:=h.2.2.2.2.1.2;have h3:∀j:Fin 12,1<=j.val->1<=rankOf j.val:=by decide
   have h4:o.toNat<12/\1<=o.toNat:=by omega
   exact h3 ⟨o.toNat,h4.1⟩ h4.2
  |_::_::_::_=>simp[exR]at h
 .split<;>omega
theorem op_text:∀j:Fin 12,1<=j.val->opOf (opS.getD j.val noB)=j.val:=by decide +kernel
theorem op_nbr:∀j:Fin 12,decide (opS.getD j.val noB=sBrO)=false:=by decide +kernel
theorem rank_le:∀j:Fin 12,rankOf j.val<=5:=by decide
theorem rank_pos:∀j:Fin 12,1<=j.val->1<=rankOf j.val:=by decide
theorem parse_ex(T:List Wd)(nm:ByteArray->Bool):∀ (e:Ex) (d:Nat),exR nm e d=true->PE T e
 | .mk k n s sl lo o [],d,h=>by
  simp only[exR,Bool.and_eq_true,Bool.or_eq_true,decide_eq_true_eq]at h
  obtain⟨-,hn,ho,hs,hk⟩:=h
  rcases hk with ⟨rfl,hn1⟩|rfl
  .rw[if_neg (by decide)]at hs
   simp only[decide_eq_true_eq]at hs
   have ho':o=0:=ho.resolve_left (by decide)
   subst hs ho'
   refine PE.of_un (by simp[Ex.bind]) fun i hi hA hbr=>?_
   have hA':AtT T i [tkI n]:=by simpa [tkE]using hA
   obtain⟨h1,h2,_⟩:=hA'.cons
   have e1:isT T i sMinus=false:=by rw[isT_of h1 h2];rfl
   have e2:isT T i sNot=false:=by rw[isT_of h1 h2];rfl
   have e3:isT T i sOpen=false:=by rw[isT_of h1 h2];rfl
   have e4:kindAt T i=2:=by rw[kind_of h1 h2];rfl
   rw[xU_eq T hi,e1,e2,if_neg (by decide),if_neg (by decide),xP_eq T hi,e3,if_neg (by decide),if_pos e4,num_of h2]
   simp[tkE,exZn,exZs,exNum,tkI]
  .have hn':n=0:=hn.resolve_left (by decide)
   have ho':o=0:=ho.resolve_left (by decide)
   subst hn' ho'
   refine PE.of_un (by simp[Ex.bind]) fun i hi hA hbr=>?_
   have hA':AtT T i [tkN s]:=by simpa [tkE]using hA
   obtain⟨h1,h2,_⟩:=hA'.cons
   have e1:isT T i sMinus=false:=by rw[isT_of h1 h2];rfl
   have e2:isT T i sNot=false:=by rw[isT_of h1 h2];rfl
   have e3:isT T i sOpen=false:=by rw[isT_of h1 h2];rfl
   have e4:kindAt T i=1:=by rw[kind_of h1 h2];rfl
   have e9:(tkE (.mk 2 0 s sl lo 0 [])).length=1:=by simp[tkE]
   rw[e9]at hbr
   rw[xU_eq T hi,e1,e2,if_neg (by decide),if_neg (by decide),xP_eq T hi,e3,if_neg (by decide),if_neg (by rw[e4];decide),pName,if_pos e4,andT_ok,hbr,if_neg (by decide),text_of h2,e9]
   simp[exZn,exZs,exName,tkN]
 | .mk k n s sl lo o [x],d,h=>by
  simp only[exR,Bool.and_eq_true,Bool.or_eq_true,decide_eq_true_eq]at h
  obtain⟨-,hn,ho,hs,hk,hx⟩:=h
  have ih:=parse_ex T nm x (d-1) hx
  have hb:=bind_pos nm x (d-1) hx
  rcases hk with rfl|hk
  .have hn':n=0:=hn.resolve_left (by decide)
   have ho':o=0:=ho.resolve_left (by decide)
   subst hn' ho'
   refine PE.of_un (by simp[Ex.bind]) fun i hi hA hbr=>?_
   have hA':AtT T i (tkN s::tkS sBrO::(tkE x++[tkS sBrS])):=by simpa [tkE]using hA
   obtain⟨h1,h2,h3⟩:=hA'.cons
   obtain⟨h4,h5,h6⟩:=h3.cons
   have h7:=h6.left
   obtain⟨h8,h9,_⟩:=h6.right.cons
   have e1:isT T i sMinus=false:=by rw[isT_of h1 h2];rfl
   have e2:isT T i sNot=false:=by rw[isT_of h1 h2];rfl
   have e3:isT T i sOpen=false:=by rw[isT_of h1 h2];rfl
   have e4:kindAt T i=1:=by rw[kind_of h1 h2];rfl
   have e5:isT T (i+1) sBrO=true:=by rw[isT_of h4 h5];decide +kernel
   have e6:opAt T (i+1+1+(tkE x).length)=0:=by rw[opAt_of h8 h9];decide +kernel
   have e7:isT T (i+1+1+(tkE x).length) sBrS=true:=by rw[isT_of h8 h9];decide +kernel
   have e10:isT T (i+1+1+(tkE x).length) sBrO=false:=by rw[isT_of h8 h9];decide +kernel
   rw[xU_eq T hi,e1,e2,if_neg (by decide),if_neg (by decide),xP_eq T hi,e3,if_neg (by decide),if_neg (by rw[e4];decide),pName,if_pos e4,andT_ok,e5,if_pos z,
    ih.ex 1 (i+1+1) (Nat.le_refl _) hb (by omega) h7 e10 (.inl e6),xL_stop (by omega) (.inl e6),andT_ok,want,e7,if_pos z,andT_ok,text_of h2]
   have e8:exZn (.mk 3 0 s sl lo 0 [x])=exCell s (exZn x):=by simp[exZn,exZs,exCell]
   rw[e8]
   have e9:(tkE (.mk 3 0 s sl lo 0 [x])).length=(tkE x).length+3:=by simp[tkE]
   rw[e9,show i+1+1+(tkE x).length+1=i+((tkE x).length+3) by omega]
   rfl
  .have hk3:k≠3:=by omega
   have hn':n=0:=hn.resolve_left (by omega)
   have ho':o=0:=ho.resolve_left (by omega)
   rw[if_neg (by omega)]at hs
   simp only[decide_eq_true_eq]at hs
   subst hn' ho' hs
   have hb6:6<=(Ex.mk k 0 noB sl lo 0 [x]).bind:=by
    simp only[Ex.bind]
    rw[if_neg (by omega),if_pos hk]
    exact Nat.le_refl _
   refine PE.of_un hb6 fun i hi hA hbr=>?_
   have hA':AtT T i (tkS (if k=4 then sMinus else sNot)::parK x.bind 6 (tkE x)):=by simpa [tkE,hk3]using hA
   obtain⟨h1,h2,h3⟩:=hA'.cons
   have e9:(tkE (.mk k 0 noB sl lo 0 [x])).length=1+(parK x.bind 6 (tkE x)).length:=by
    simp only[tkE,if_neg hk3,List.length_cons]
    omega
   rw[e9,<-Nat.add_assoc]at hbr
   have hun:xU T (i+1)=some (.ok (exZn x,i+1+(parK x.bind 6 (tkE x)).length)):=by
    unfold parK at h3 ⊢
    by_cases hl:x.bind<6
    .rw[if_pos hl]at h3 ⊢
     rw[paren ih hb (by omega) h3]
     simp
    .unfold parK at hbr
     rw[if_neg hl]at h3 hbr ⊢
     exact ih.un (i+1) (by omega) (by omega) h3 hbr
   rcases hk with rfl|rfl
   .have e1:isT T i sMinus=true:=by rw[isT_of h1 h2];decide +kernel
    rw[xU_eq T hi,e1,if_pos rfl,hun,andT_ok,e9,Nat.add_assoc]
    simp[exZn,exZs,exNeg]
   .have e1:isT T i sMinus=false:=by rw[isT_of h1 h2];decide +kernel
    have e2:isT T i sNot=true:=by rw[isT_of h1 h2];decide +kernel
    rw[xU_eq T hi,e1,if_neg (by decide),e2,if_pos rfl,hun,andT_ok,e9,Nat.add_assoc]
    simp[exZn,exZs,exNot]
 | .mk k n s sl lo o [x,y],d,h=>by
  simp only[exR,Bool.and_eq_true,Bool.or_eq_true,decide_eq_true_eq]at h
  obtain⟨-,hn,-,hs,⟨rfl,ho1,ho2⟩,hx,hy⟩:=h
  have hn':n=0:=hn.resolve_left (by decide)
  rw[if_neg (by decide)]at hs
  simp only[decide_eq_true_eq]at hs
  subst hn' hs
  have ihx:=parse_ex T nm x (d-1) hx
  have ihy:=parse_ex T nm y (d-1) hy
  have hbx:=bind_pos nm x (d-1) hx
  have hby:=bind_pos nm y (d-1) hy
  obtain⟨q,rfl⟩:∃q:Nat,o=q:=⟨o.toNat,by omega⟩
  have hq:q<12/\1<=q:=by omega
  have hop:opOf (opS.getD q noB)=q:=op_text ⟨q,hq.1⟩ hq.2
  have hr5:rankOf q<=5:=rank_le ⟨q,hq.1⟩
  have hr1:1<=rankOf q:=rank_pos ⟨q,hq.1⟩ hq.2
  have hbd:(Ex.mk 6 0 noB sl lo (q:Int) [x,y]).bind=rankOf q:=by simp[Ex.bind]
  obtain⟨r,hr⟩:∃r,rankOf q=r:=⟨_,z⟩
  obtain⟨lv,hlv⟩:∃lv,(if r=3 then 4 else r)=lv:=⟨_,z⟩
  have hlv1:r<=lv/\lv<=6/\(r=3->lv=4)/\(r≠3->lv=r):=by
   rw[<-hlv]
   split<;>omega
  refine⟨fun n i hn1 hn2 hi hA hbr hst=>?_,fun i h6 _ _ _=>by omega⟩
  rw[hbd,hr]at hn2 hst
  have e0:tkE (.mk 6 0 noB sl lo (q:Int) [x,y])=parK x.bind lv (tkE x)++(tkS (opS.getD q noB)::parK y.bind (r+1) (tkE y)):=by simp only[tkE,Int.toNat_natCast,hr,hlv]
  rw[e0]at hA hbr hst ⊢
  obtain⟨UX,hUX⟩:∃U,parK x.bind lv (tkE x)=U:=⟨_,z⟩
  obtain⟨UY,hUY⟩:∃U,parK y.bind (r+1) (tkE y)=U:=⟨_,z⟩
  rw[hUX,hUY]at hA hbr hst ⊢
  have hAx:=hA.left
  obtain⟨h1,h2,hAy⟩:=hA.right.cons
  have hop1:opAt T (i+UX.length)=q:=by rw[opAt_of h1 h2];simp only[tkS,if_true];exact hop
  have hlen:i+(UX++(tkS (opS.getD q noB)::UY)).length=i+UX.length+1+UY.length:=by simp;omega
  rw[hlen]at hbr hst ⊢
  have hbrx:isT T (i+UX.length) sBrO=false:=by
   rw[isT_of h1 h2]
   have:decide (opS.getD q noB=sBrO)=false:=op_nbr ⟨q,hq.1⟩
   show ((decide ((4:Int)=3)||decide ((4:Int)=4))&&decide (opS.getD q noB=sBrO))=false
   rw[this]
   exact Bool.and_false _
  have hr6:r<=5:=by omega
  have hst2:opAt T (i+UX.length+1+UY.length)=0∨rankOf (opAt T (i+UX.length+1+UY.length))<=r:=by omega
  have hiX:i+UX.length<=T.length:=by omega
  have hiY:=hAy.len (by omega)
  have hL:∃m,r<=m/\xE T n i=xL T n m (exZn x) (i+UX.length):=by
   unfold parK at hUX
   by_cases hl:x.bind<lv
   .rw[if_pos hl]at hUX
    subst hUX
    refine⟨6,by omega,?_⟩
    rw[xE_eq T hi,paren ihx hbx hi hAx,andT_ok]
    simp
   .rw[if_neg hl]at hUX
    subst hUX
    refine⟨Mx x.bind,?_,ihx.ex n i hn1 (by omega) hi hAx hbrx (.inr (.inr (by rw[hop1,hr];omega)))⟩
    unfold Mx nextM
    split
    .omega
    .split<;>omega
  have hR:xE T (r+1) (i+UX.length+1)=some (.ok (exZn y,i+UX.length+1+UY.length)):=by
   unfold parK at hUY
   by_cases hl:y.bind<r+1
   .rw[if_pos hl]at hUY
    subst hUY
    rw[xE_eq T (by omega),paren ihy hby (by omega) hAy,andT_ok]
    rw[show i+UX.length+1+((tkE y).length+2)=i+UX.length+1+(tkS sOpen::(tkE y++[tkS sShut])).length by simp]
    exact xL_stop hiY (by omega)
   .rw[if_neg hl]at hUY
    subst hUY
    rw[ihy.ex (r+1) _ (by omega) (by omega) (by omega) hAy hbr (by omega)]
    exact xL_stop hiY (by omega)
  obtain⟨m,hm,hL⟩:=hL
  have hcond:¬ (opAt T (i+UX.length)=0∨rankOf (opAt T (i+UX.length))<n∨m<rankOf (opAt T (i+UX.length))):=by rw[hop1,hr];omega
  rw[hL,xL_eq T hiX,if_neg hcond,hop1,hr,hR,andT_ok,hbd,hr]
  have hMx:Mx r=nextM r:=by unfold Mx;rw[if_neg (by omega)]
  rw[hMx]
  simp[exZn,exZs,exBin]
 | .mk k n s sl lo o (_::_::_::_),d,h=>by simp[exR]at h
section
variable (T:List Wd)
theorem andT_mono{α β:Type}{x x':PR α}{k k':α->Nat->PR β}{R:Except Nat (β×Nat)}(hx:∀Q,x=some Q->x'=some Q)(hk:∀a j Q,k a j=some Q->k' a j=some Q)(h:andT x k=some R):andT x' k'=some R:=by
 rcases hq:x with _| (j|⟨a,j⟩)
 .rw[hq]at h;cases h
 .rw[hq]at h;rw[hx _ hq];exact h
 .rw[hq]at h;rw[hx _ hq];exact hk _ _ _ h
theorem pSMono:∀f,(∀i R,pB T f i=some R->pB T (f+1) i=some R)/\(∀acc i R,pSs T f acc i=some R->pSs T (f+1) acc i=some R)/\(∀i R,pS T f i=some R->pS T (f+1) i=some R):=by
 intro f;induction f with
 |zero=>exact⟨fun _ _ h=>by simp[pB]at h,fun _ _ _ h=>by simp[pSs]at h,fun _ _ h=>by simp[pS]at h⟩
 |succ f ih=>
  obtain⟨hB,hSs,hS⟩:=ih;refine⟨fun i R h=>?_,fun acc i R h=>?_,fun i R h=>?_⟩
  .rw[pB]at h ⊢;exact andT_mono (fun _ h=>h) (fun _ j Q h=>hSs _ _ _ h) h
  .rw[pSs]at h ⊢;split at h
   .rename_i hc;rw[if_pos hc];exact h
   .rename_i hc;rw[if_neg hc];exact andT_mono (fun Q h=>hS _ _ h) (fun _ j Q h=>hSs _ _ _ h) h
  .rw[pS]at h ⊢;split at h
   .rename_i hc;rw[if_pos hc];exact h
   rename_i hc;rw[if_neg hc];split at h
   .rename_i hc;rw[if_pos hc];exact h
   rename_i hc;rw[if_neg hc];split at h
   .rename_i hc;rw[if_pos hc];exact andT_mono (fun _ h=>h) (fun x j Q h=>andT_mono (fun Q h=>hB _ _ h) (fun _ _ _ h=>h) h) h
   rename_i hc;rw[if_neg hc];split at h
   .rename_i hc;rw[if_pos hc];refine andT_mono (fun _ h=>h) (fun x j Q h=>andT_mono (fun Q h=>hB _ _ h) (fun b m Q h=>?_) h) h;split at h
    .rename_i hc;rw[if_pos hc];exact andT_mono (fun Q h=>hB _ _ h) (fun _ _ _ h=>h) h
    .rename_i hc;rw[if_neg hc];exact h
   .rename_i hc;rw[if_neg hc];exact h
def xB(i:Nat):PR (List St):=pB T (3*T.length+3) i
def xSs(acc:List St)(i:Nat):PR (List St):=pSs T (3*T.length+3) acc i
def xS(i:Nat):PR St:=pS T (3*T.length+3) i
theorem pB_x{f:Nat}(hi:i<=T.length)(hf:f+1=3*T.length+3)(hb:3* (T.length-i)+1<=f):pB T f i=xB T i:=by obtain⟨R,hR,_⟩:=(pSTotal T f).1 i hi hb;rw[hR,xB,<-hf,(pSMono T f).1 _ _ hR]
theorem pSs_x{f:Nat}{acc:List St}(hi:i<=T.length)(hf:f+1=3*T.length+3)(hb:3* (T.length-i)+2<=f):pSs T f acc i=xSs T acc i:=by obtain⟨R,hR,_⟩:=(pSTotal T f).2.1 acc i hi hb;rw[hR,xSs,<-hf,(pSMono T f).2.1 _ _ _ hR]
theorem pS_x{f:Nat}(hi:i<=T.length)(hf:f+1=3*T.length+3)(hb:3* (T.length-i)+1<=f):pS T f i=xS T i:=by obtain⟨R,hR,_⟩:=(pSTotal T f).2.2 i hi hb;rw[hR,xS,<-hf,(pSMono T f).2.2 _ _ hR]
theorem xS_adv{x:St}(hi:i<=T.length)(h:xS T i=some (.ok (x,j))):i<j/\j<=T.length:=by obtain⟨R,hR,hA⟩:=(pSTotal T (3*T.length+3)).2.2 i hi (by omega);rw[xS,hR]at h;exact hA x j (Option.some.inj h)
theorem xB_adv{x:List St}(hi:i<=T.length)(h:xB T i=some (.ok (x,j))):i<j/\j<=T.length:=by obtain⟨R,hR,hA⟩:=(pSTotal T (3*T.length+3)).1 i hi (by omega);rw[xB,hR]at h;exact hA x j (Option.some.inj h)
theorem pX_adv{x:Ex}(hi:i<=T.length)(h:pX T i=some (.ok (x,j))):i<j/\j<=T.length:=by obtain⟨R,hR,hA⟩:=pX_total T hi;rw[hR]at h;exact hA x j (Option.some.inj h)
theorem xB_eq(_hi:i<=T.length):xB T i=andT (want T sBlO i) fun _ j=>xSs T [] j:=by rw[xB,show 3*T.length+3=(3*T.length+2)+1 from rfl,pB];refine andT_congr fun _ j h=>?_;obtain⟨rfl,h2⟩:=want_ok T h;exact pSs_x T (by omega) z (by omega)
theorem xSs_eq{acc:List St}(hi:i<=T.length):xSs T acc i=if isT T i sBlS=true then some (.ok (acc,i+1)) else andT (xS T i) fun s j=>xSs T (acc++[s]) j:=by
 rw[xSs,show 3*T.length+3=(3*T.length+2)+1 from rfl,pSs];split
 .rfl
 .rw[pS_x T hi rfl (by omega)];refine andT_congr fun _ j h=>?_;have:=xS_adv T hi h;exact pSs_x T (by omega) z (by omega)
theorem xS_eq(_hi:i<=T.length):xS T i=
  if kindAt T i=1 then pAssign T (plOf T i) i
  else if kindAt T i≠3∨stOf (T.getD i default).text=0 then some (.error i)
  else if stOf (T.getD i default).text=5 then andT (pX T (i+1)) fun x j=>andT (xB T j) fun b m=>some (.ok (mkSt 5 (plOf T i) noB noB x zEx b [],m))
  else if stOf (T.getD i default).text=4 then andT (pX T (i+1)) fun x j=>andT (xB T j) fun b m=> if isT T m wElse=true then andT (xB T (m+1)) fun c n=>some (.ok (mkSt 4 (plOf T i) noB noB x zEx b c,n)) else some (.ok (mkSt 4 (plOf T i) noB noB x zEx b [],m))
  else pPlain T (plOf T i) (stOf (T.getD i default).text) (i+1):=by
 rw[xS,show 3*T.length+3=(3*T.length+2)+1 from rfl,pS];split
 .rfl
 split
 .rfl
 rename_i hc;have hk:kindAt T i=3:=by
  rcases Int.decEq (kindAt T i) 3 with h|h
  .exact absurd (.inl h) hc
  .exact h
 have hlt:=kind_lt T (i:=i) (by rw[hk];decide);split
 .refine andT_congr fun x j h=>?_;have:=pX_adv T (by omega) h;rw[pB_x T (by omega) rfl (by omega)]
 split
 .refine andT_congr fun x j h=>?_;have h1:=pX_adv T (by omega) h;rw[pB_x T (by omega) rfl (by omega)];refine andT_congr fun b m h=>?_;have h2:=xB_adv T (by omega) h;split
  .rename_i hc;have:=isT_lt T hc;rw[pB_x T (by omega) rfl (by omega)]
  .rfl
 .rfl
end
def sgnL(L:List UInt8):Nat:=if 2<=L.length/\isSg (L.take 2)=true then 2 else if isSg (L.take 1) then 1 else 0
def badL(L:List UInt8):Bool:=!(numP (L.takeWhile isDig)).2|| ((L.drop (L.takeWhile isDig).length).head?.any isLet)
def wordL(L:List UInt8):Int×Nat×Int×Int:=
 if isLet (L.headD 0) then (if isKw (L.takeWhile isAny) then 3 else 1,(L.takeWhile isAny).length,0,if isKw (L.takeWhile isAny) then 0 else if 16< (L.takeWhile isAny).length then 111 else 0)
 else if isDig (L.headD 0) then (2,(L.takeWhile isDig).length,if badL L then 0 else (numP (L.takeWhile isDig)).1,if badL L then 112 else 0)
 else (4,sgnL L,0,if sgnL L=0 then 110 else 0)
theorem head_byte(hk:k<s.size):(s.data.toList.drop k).headD 0=byte s k:=by rw[drop_byte hk];rfl
theorem ext_take:(s.extract k (k+n)).data.toList=(s.data.toList.drop k).take n:=by rw[ByteArray.data_extract,Array.toList_extract,List.extract_eq_take_drop];congr 1;omega
theorem sgn_list(hk:k<s.size):sgnF s k (min 2 (s.size-k))=sgnL (s.data.toList.drop k):=by
 have hl:(s.data.toList.drop k).length=s.size-k:=by rw[List.length_drop,size_list]
 unfold sgnL;rw[hl];by_cases h2:2<=s.size-k
 .rw[show min 2 (s.size-k)=2 by omega];simp only[sgnF,ext_take,h2,true_and]
 .rw[show min 2 (s.size-k)=1 by omega];simp only[sgnF,ext_take,h2,false_and,if_false]
theorem word_list(hk:k<s.size):
  wKind s k=(wordL (s.data.toList.drop k)).1/\wEnd s k=k+(wordL (s.data.toList.drop k)).2.1/\wNum s k=(wordL (s.data.toList.drop k)).2.2.1/\wErr s k=(wordL (s.data.toList.drop k)).2.2.2:=by
 have hE:∀f,endOf f s k=k+((s.data.toList.drop k).takeWhile f).length:=fun _=>z;have hbad:badP s k=badL (s.data.toList.drop k):=by unfold badP badL;rw[next_let,extract_while,hE,<-List.drop_drop]
 unfold wordL wKind wEnd wNum wErr;rw[head_byte hk,hbad,sgn_list hk,extract_while,extract_while];cases isLet (byte s k) with
 |true=>
  refine⟨z,z,z,?_⟩;simp only[if_true,hE,Nat.add_sub_cancel_left]
 |false=>
  cases isDig (byte s k) with
  |true=>exact⟨z,z,z,z⟩
  |false=>exact⟨z,z,z,z⟩
def Chn(s:ByteArray):Nat->List Wd->Prop
 |k,[]=>¬gapAt s k<s.size
 |k,t::r=>gapAt s k<s.size/\wErr s (gapAt s k)=0/\t=tokW s (gapAt s k)/\Chn s (wEnd s (gapAt s k)) r
theorem Chn.to_lex:∀ (l:List Wd) (k:Nat) (acc:List Wd),Chn s k l->lexA s k acc=(acc++l,(0,0),0)
 | [],k,acc,h=>by rw[lexA_end h,List.append_nil]
 |t::r,k,acc,⟨h1,h2,h3,h4⟩=>by
  rw[<-lexA_on h1 h2,Chn.to_lex r _ _ h4,<-h3,List.append_assoc]
  rfl
inductive Lx:List UInt8->List Ky->Prop
 |nil {g:List UInt8} (hg:∀c∈g,isBl c=true):Lx g []
 |cons {g w L:List UInt8} {u:Ky} {U:List Ky} (hg:∀c∈g,isBl c=true) (hw:w≠[]) (hb:isBl (w.headD 0)=false) (h35:¬ (w.headD 0).toNat=35)
   (hW:wordL (w++L)=(u.kind,w.length,u.num,0)) (ht:u.text.data.toList=w) (h:Lx L U):Lx (g++(w++L)) (u::U)
theorem gap_blanks:∀ (g R:List UInt8) (k:Nat),s.data.toList.drop k=g++R->(∀c∈g,isBl c=true)->gapAt s k=gapAt s (k+g.length)
 | [],_,_,_,_=>rfl
 |c::g,R,k,hd,hg=>by
  have hk:k<s.size:=by
   have:=congrArg List.length hd
   rw[List.length_drop,size_list]at this
   simp at this
   omega
  have hb:byte s k=c:=by rw[<-head_byte hk,hd];rfl
  have hd2:s.data.toList.drop (k+1)=g++R:=by rw[<-List.drop_drop,hd];rfl
  rw[<-gap_bl hk (by rw[hb];exact hg c (List.mem_cons_self ..)),gap_blanks g R (k+1) hd2 fun x hx=>hg x (List.mem_cons_of_mem _ hx),List.length_cons,show k+1+g.length=k+(g.length+1) by omega]
theorem Lx.ch{L:List UInt8}{U:List Ky}(h:Lx L U):∀k,s.data.toList.drop k=L->∃m,Chn s k m/\m.map stp=U:=by
 induction h with
 | @nil g hg=>
  intro k hd;refine⟨[],?_,z⟩;have hl:s.size-k=g.length:=by have:=congrArg List.length hd;rwa [List.length_drop,size_list]at this
  unfold Chn;rw[gap_blanks g [] k (by rw[hd,List.append_nil]) hg,gap_out (by omega)];omega
 | @cons g w L u U hg hw hb h35 hW ht _ ih=>
  intro k hd;have hl:s.size-k=g.length+(w.length+L.length):=by have:=congrArg List.length hd;rwa [List.length_drop,size_list,List.length_append,List.length_append]at this
  have hpos:0<w.length:=List.length_pos_iff.2 hw;have hd1:s.data.toList.drop (k+g.length)=w++L:=by rw[<-List.drop_drop,hd,List.drop_left]
  have hd2:s.data.toList.drop (k+g.length+w.length)=L:=by rw[<-List.drop_drop,hd1,List.drop_left]
  obtain⟨m,hm,hmu⟩:=ih _ hd2;have hp:k+g.length<s.size:=by omega
  have hby:byte s (k+g.length)=w.headD 0:=by
   rw[<-head_byte hp,hd1];match w,hw with
   |_::_,_=>rfl
  have hga:gapAt s k=k+g.length:=by rw[gap_blanks g _ k hd hg,gap_at hp (by rw[hby];exact hb) (by rw[hby];exact h35)]
  obtain⟨w1,w2,w3,w4⟩:=word_list (s:=s) (k:=k+g.length) hp;rw[hd1,hW]at w1 w2 w3 w4;simp only at w1 w2 w3 w4;refine⟨tokW s (k+g.length)::m,?_,?_⟩
  .unfold Chn;rw[hga];exact⟨hp,w4,z,by rw[w2];exact hm⟩
  .rw[List.map_cons,hmu];congr 1;have ht2:s.extract (k+g.length) (k+g.length+w.length)=u.text:=by refine ByteArray.ext (Array.ext' ?_);rw[ext_take,hd1,List.take_left,ht]
   show (⟨wKind s _,s.extract _ (wEnd s _),wNum s _⟩:Ky)=u;rw[w1,w2,w3,ht2]
theorem Lx.lexR{U:List Ky}(h:Lx s.data.toList U)(hs:s.size<=65536):∃m,lexR s=(m,(0,0),0)/\m.map stp=U:=by obtain⟨m,hm,hu⟩:=h.ch (s:=s) 0 z;refine⟨m,?_,hu⟩;unfold Go.Proofs.YtgppcdfgdaggjaaGreatDoor.lexR;rw[if_neg (by omega),hm.to_lex];rfl
theorem at_map{T:List Wd}{U:List Ky}(h:T.map stp=U):AtT T 0 U:=by subst h;intro j hj;rw[List.length_map]at hj;rw[Nat.zero_add];refine⟨hj,?_⟩;rw[List.getD_eq_getElem?_getD,List.getD_eq_getElem?_getD,List.getElem?_map,List.getElem?_eq_getElem hj];rfl
theorem Lx.bl{c:UInt8}{L:List UInt8}{U:List Ky}(hc:isBl c=true)(h:Lx L U):Lx (c::L) U:=by
 have hall:∀ {g:List UInt8},(∀x∈g,isBl x=true)->∀x∈c::g,isBl x=true:=fun hg x hx=>by
  rcases List.mem_cons.1 hx with rfl|hx
  .exact hc
  .exact hg x hx
 cases h with
 |nil hg=>exact .nil (hall hg)
 |cons hg hw hb h35 hW ht h=>rw[<-List.cons_append];exact .cons (hall hg) hw hb h35 hW ht h
theorem Lx.wd{w L:List UInt8}{u:Ky}{U:List Ky}(h:Lx L U)(hw:w≠[])(hb:isBl (w.headD 0)=false/\¬ (w.headD 0).toNat=35)(hW:wordL (w++L)=(u.kind,w.length,u.num,0))(ht:u.text.data.toList=w):Lx (w++L) (u::U):=
 .cons (g:=[]) (fun c hc=>by cases hc) hw hb.1 hb.2 hW ht h
section
variable {L:List UInt8} {U:List Ky}
theorem lx_shut(h:Lx L U):Lx (41::L) (tkS sShut::U):=h.wd (w:=[41]) (by simp) (by decide) (by cases L<;>kernel_rfl) z
theorem lx_open(h:Lx L U):Lx (40::L) (tkS sOpen::U):=h.wd (w:=[40]) (by simp) (by decide) (by cases L<;>kernel_rfl) z
theorem lx_semi(h:Lx L U):Lx (59::L) (tkS sSemi::U):=h.wd (w:=[59]) (by simp) (by decide) (by cases L<;>kernel_rfl) z
theorem lx_blo(h:Lx L U):Lx (123::L) (tkS sBlO::U):=h.wd (w:=[123]) (by simp) (by decide) (by cases L<;>kernel_rfl) z
theorem lx_bls(h:Lx L U):Lx (125::L) (tkS sBlS::U):=h.wd (w:=[125]) (by simp) (by decide) (by cases L<;>kernel_rfl) z
theorem lx_minus(h:Lx L U):Lx (45::L) (tkS sMinus::U):=h.wd (w:=[45]) (by simp) (by decide) (by cases L<;>kernel_rfl) z
end
variable {T:List Wd}
def Fol(L:List UInt8):Prop:=isAny (L.headD 0)=false
theorem take_pre{f:UInt8->Bool}{w L:List UInt8}(hw:∀c∈w,f c=true)(_h0:f 0=false)(hL:f (L.headD 0)=false):(w++L).takeWhile f=w:=by
 rw[List.takeWhile_append_of_pos hw];match L,hL with
 | [],_=>simp
 |c::r,h=>rw[List.takeWhile_cons_of_neg (by simpa using h),List.append_nil]
theorem head_app{w L:List UInt8}(hw:w≠[]):(w++L).headD 0=w.headD 0:=by
 match w,hw with
 |_::_,_=>rfl
theorem let_nobl{c:UInt8}(h:isLet c=true):isBl c=false/\¬c.toNat=35:=by
 unfold isLet at h;simp only[Bool.and_eq_true,decide_eq_true_eq]at h;unfold isBl;constructor
 .simp;omega
 .omega
theorem dig_nobl{c:UInt8}(h:isDig c=true):isBl c=false/\¬c.toNat=35:=by
 unfold isDig at h;simp only[Bool.and_eq_true,decide_eq_true_eq]at h;unfold isBl;constructor
 .simp;omega
 .omega
theorem lx_word{w:ByteArray}{k:Bool}{L:List UInt8}{U:List Ky}(h1:isLet (w.data.toList.headD 0)=true)(h2:∀c∈w.data.toList,isAny c=true)(h16:w.data.toList.length<=16)(hk:isKw w.data.toList=k)(hf:Fol L)(h:Lx L U):
  Lx (w.data.toList++L) (⟨if k then 3 else 1,w,0⟩::U):=by
 have hne:w.data.toList≠[]:=by intro e;rw[e]at h1;cases h1
 refine h.wd hne (let_nobl h1) ?_ z;unfold wordL;rw[head_app hne,h1,if_pos rfl,take_pre h2 (by decide) hf,hk];cases k
 .simp only[Bool.false_eq_true,if_false];rw[if_neg (by omega)]
 .simp
theorem lx_name{L:List UInt8}{U:List Ky}(hs:isName s=true)(hf:Fol L)(h:Lx L U):Lx (s.data.toList++L) (tkN s::U):=by
 unfold isName at hs;simp only[Bool.and_eq_true,decide_eq_true_eq,Bool.not_eq_true']at hs;obtain⟨h0,h16,hl,ha,hk⟩:=hs;have hh:s.data.toList.headD 0=byte s 0:=by rw[<-head_byte h0,List.drop_zero]
 have:=lx_word (w:=s) (k:=false) (by rw[hh];exact hl) (List.all_eq_true.1 ha) (by rw[size_l];exact h16) hk hf h;exact this
theorem lx_kw{w:ByteArray}{L:List UInt8}{U:List Ky}(hk:isKw w.data.toList=true/\isLet (w.data.toList.headD 0)=true/\w.data.toList.all isAny=true/\w.data.toList.length<=16)(hf:Fol L)(h:Lx L U):Lx (w.data.toList++L) (tkK w::U):=
 lx_word (k:=true) hk.2.1 (List.all_eq_true.1 hk.2.2.1) hk.2.2.2 hk.1 hf h
theorem dd_step{u:Nat}(h:¬u<10):Lib.decDigits u=Lib.decDigits (u/10)++[UInt8.ofNat (48+u % 10)]:=by rw[Lib.decDigits,dif_neg h]
theorem dig_of:∀j:Nat,j<10->isDig (UInt8.ofNat (48+j))=true:=by decide
theorem val_of:∀j:Nat,j<10->(UInt8.ofNat (48+j)).toNat-48=j:=by decide
theorem nz_of:∀j:Nat,j<10->1<=j->UInt8.ofNat (48+j)≠48:=by decide
theorem dd_dig(u:Nat):∀c∈Lib.decDigits u,isDig c=true:=by
 induction u using Nat.strongRecOn with
 |_ u ih=>
  intro c hc;by_cases h:u<10
  .rw[Lib.decDigits_one h,List.mem_singleton]at hc;rw[hc];exact dig_of u h
  .rw[dd_step h]at hc;rcases List.mem_append.1 hc with hc|hc
   .exact ih (u/10) (by omega) c hc
   .rw[List.mem_singleton]at hc;rw[hc];exact dig_of _ (Nat.mod_lt _ (by decide))
theorem fv_app:∀ (a b:List UInt8) (acc:Nat),fv acc (a++b)=fv (fv acc a) b
 | [],_,_=>rfl
 |_::r,b,_=>fv_app r b _
theorem fv_one(acc:Nat)(c:UInt8):fv acc [c]=acc*10+(c.toNat-48):=rfl
theorem fv_dd(u:Nat):fv 0 (Lib.decDigits u)=u:=by
 induction u using Nat.strongRecOn with
 |_ u ih=>
  by_cases h:u<10
  .rw[Lib.decDigits_one h,fv_one,val_of u h];omega
  .rw[dd_step h,fv_app,ih (u/10) (by omega),fv_one,val_of _ (Nat.mod_lt _ (by decide))];omega
theorem dd_ne(u:Nat):Lib.decDigits u≠[]:=by
 by_cases h:u<10
 .rw[Lib.decDigits_one h];simp
 .rw[dd_step h];simp
theorem dd_head(u:Nat):1< (Lib.decDigits u).length->(Lib.decDigits u).head? ≠some 48:=by
 induction u using Nat.strongRecOn with
 |_ u ih=>
  intro h1;by_cases h:u<10
  .rw[Lib.decDigits_one h]at h1;simp at h1
  .rw[dd_step h];have hh:∀ (L M:List UInt8),L≠[]->(L++M).head? =L.head? :=fun L M hL=>by
    match L,hL with
    |_::_,_=>rfl
   rw[hh _ _ (dd_ne _)];by_cases h2:u/10<10
   .rw[Lib.decDigits_one h2];intro e;exact nz_of _ h2 (by omega) (by simpa using e)
   .refine ih (u/10) (by omega) ?_;rw[dd_step h2];have:=List.length_pos_iff.2 (dd_ne (u/10/10));rw[List.length_append,List.length_singleton];omega
theorem dig_nolet{c:UInt8}(h:isDig c=true):isLet c=false:=by unfold isDig at h;unfold isLet;simp only[Bool.and_eq_true,decide_eq_true_eq]at h;rw[decide_eq_false (show ¬97<=c.toNat by omega),Bool.false_and]
theorem lx_num{n:Int}{L:List UInt8}{U:List Ky}(h0:0<=n)(h1:n<=2147483647)(hf:Fol L)(h:Lx L U):Lx (Lib.itoa n++L) (tkI n::U):=by
 obtain⟨u,rfl⟩:∃u:Nat,n=u:=⟨n.toNat,by omega⟩;have hi:Lib.itoa (u:Int)=Lib.decDigits u:=by unfold Lib.itoa;rw[if_neg (by omega)];rfl
 have hne:=dd_ne u;have hdig:=dd_dig u;have hh:isDig ((Lib.decDigits u).headD 0)=true:=by
  match hq:Lib.decDigits u,hne with
  |c::r,_=>exact hdig c (by rw[hq];exact List.mem_cons_self ..)
 have hlet:isLet ((Lib.decDigits u).headD 0)=false:=dig_nolet hh;have hn:numP (Lib.decDigits u)=((u:Int),true):=by
  unfold numP;rw[fv_dd,if_neg];rintro(⟨e1,e2⟩|e)
  .exact dd_head u e1 e2
  .omega
 have hdf:isDig (L.headD 0)=false:=by unfold Fol isAny at hf;simp only[Bool.or_eq_false_iff]at hf;exact hf.2
 have hlf:isLet (L.headD 0)=false:=by unfold Fol isAny at hf;simp only[Bool.or_eq_false_iff]at hf;exact hf.1
 rw[hi];refine h.wd hne (dig_nobl hh) ?_ (by unfold tkI bS;rw[hi]);have htw:(Lib.decDigits u++L).takeWhile isDig=Lib.decDigits u:=take_pre hdig (by decide) hdf;have hbad:badL (Lib.decDigits u++L)=false:=by
  unfold badL;rw[htw,hn,List.drop_left];match L,hlf with
  | [],_=>rfl
  |c::r,h=>simpa using h
 unfold wordL;rw[head_app hne,hlet,if_neg (by decide),hh,if_pos rfl,hbad,htw,hn];rfl
section
variable {L:List UInt8} {U:List Ky}
theorem lx_bro(h:Lx L U):Lx (91::L) (tkS sBrO::U):=h.wd (w:=[91]) (by simp) (by decide) (by cases L<;>kernel_rfl) z
theorem lx_brs(h:Lx L U):Lx (93::L) (tkS sBrS::U):=h.wd (w:=[93]) (by simp) (by decide) (by cases L<;>kernel_rfl) z
theorem lx_eq(h:Lx L U):Lx (32::61::32::L) (tkS sEq::U):=Lx.bl (by decide) ((h.bl (c:=32) (by decide)).wd (w:=[61]) (by simp) (by decide) (by kernel_rfl) z)
theorem lx_sp(h:Lx L U):Lx (32::L) U:=h.bl (by decide)
theorem lx_nl(h:Lx L U):Lx (10::L) U:=h.bl (by decide)
theorem lx_tabs(h:Lx L U):∀n,Lx (tabs n++L) U
 |0=>h
 |n+1=>by
  have:=(lx_tabs h n).bl (c:=9) (by decide)
  unfold tabs at this ⊢
  rw[List.replicate_succ]
  exact this
end
mutual
def tkSt:St->List Ky
 | .mk k _ _ s t x y body els _ _ _ _=>
  if k=1 then tkK (stW.getD 1 noB)::tkN s::tkS sEq::(tkE x++[tkS sSemi])
  else if k=2 then tkN s::tkS sEq::(tkE x++[tkS sSemi])
  else if k=3 then tkN s::tkS sBrO::(tkE y++(tkS sBrS::tkS sEq::(tkE x++[tkS sSemi])))
  else if k=4 then tkK (stW.getD 4 noB)::(tkE x++(tkS sBlO::(tkSs body++(tkS sBlS::(if els=[] then [] else tkK wElse::tkS sBlO::(tkSs els++[tkS sBlS]))))))
  else if k=5 then tkK (stW.getD 5 noB)::(tkE x++(tkS sBlO::(tkSs body++[tkS sBlS])))
  else if k=8∨k=12 then tkK (stW.getD k.toNat noB)::tkN s::tkN t::[tkS sSemi]
  else if k=11 then tkK (stW.getD 11 noB)::tkN s::(tkE x++[tkS sSemi])
  else if k=14 then tkK (stW.getD 14 noB)::[tkS sSemi]
  else if k=15 then tkK (stW.getD 15 noB)::(tkE x++[tkS sSemi])
  else tkK (stW.getD k.toNat noB)::tkN s::[tkS sSemi]
def tkSs:List St->List Ky
 | []=> []
 |s::r=>tkSt s++tkSs r
end
def tkNum(n:Int):List Ky:=if n<0 then [tkS sMinus,tkI (-n)] else [tkI n]
def tkDe(d:De):List Ky:=
 if d.kind=1 then tkK (deW.getD 1 noB)::tkN d.name::tkS sEq::(tkNum d.num++[tkS sSemi])
 else if d.kind=2∨d.kind=5 then tkK (deW.getD d.kind.toNat noB)::tkN d.name::tkI d.num::[tkS sSemi]
 else if d.kind=3∨d.kind=4 then tkK (deW.getD d.kind.toNat noB)::tkN d.name::[tkS sSemi]
 else tkK (deW.getD 6 noB)::tkN d.name::tkS sBlO::(tkSs d.body++[tkS sBlS])
theorem lx_paren{t:List UInt8}{K:List Ky}(ht:∀ (L:List UInt8) (U:List Ky),Fol L->Lx L U->Lx (t++L) (K++U)){L:List UInt8}{U:List Ky}(hf:Fol L)(h:Lx L U):Lx (par b n t++L) (parK b n K++U):=by
 unfold par parK;split
 .have h1:=lx_open (ht (41::L) (tkS sShut::U) z (lx_shut h));simp only[List.cons_append,List.append_assoc,List.nil_append];exact h1
 .exact ht L U hf h
theorem lx_not{L:List UInt8}{U:List Ky}(hL:L.headD 0≠61)(h:Lx L U):Lx (33::L) (tkS sNot::U):=by
 refine h.wd (w:=[33]) (by simp) (by decide) ?_ z;match L,hL with
 | [],_=>
  show wordL [33]=_;kernel_rfl
 |c::r,hc=>
  have hc':c≠61:=hc;have hs:sgnL (33::c::r)=1:=by
   unfold sgnL;have h2:isSg ((33::c::r:List UInt8).take 2)=false:=by unfold isSg sgL;simp;exact fun e=>hc' e.symm
   rw[h2,if_neg (by simp)];rfl
  show wordL (33::c::r)=_;unfold wordL;rw[hs];rfl
theorem lx_op{q:Nat}(h1:1<=q)(h2:q<=11){L:List UInt8}{U:List Ky}(h:Lx L U):Lx (32::((opS.getD q noB).data.toList++(32::L))) (tkS (opS.getD q noB)::U):=by
 refine Lx.bl (by decide) ((h.bl (c:=32) (by decide)).wd ?_ ?_ ?_ z)
 .have:∀j:Fin 12,1<=j.val->(opS.getD j.val noB).data.toList≠[]:=by decide
  exact this ⟨q,by omega⟩ h1
 .have:∀j:Fin 12,1<=j.val->isBl ((opS.getD j.val noB).data.toList.headD 0)=false/\¬ ((opS.getD j.val noB).data.toList.headD 0).toNat=35:=by decide
  exact this ⟨q,by omega⟩ h1
 .have hc:q=1∨q=2∨q=3∨q=4∨q=5∨q=6∨q=7∨q=8∨q=9∨q=10∨q=11:=by omega
  rcases hc with rfl|rfl|rfl|rfl|rfl|rfl|rfl|rfl|rfl|rfl|rfl<;> (show wordL _=_;kernel_rfl)
theorem par_head{t L:List UInt8}(ht:∀L:List UInt8,(t++L).headD 0≠61):(par b n t++L).headD 0≠61:=by
 unfold par;split
 .show (40:UInt8)≠61;decide
 .exact ht L
theorem name_head(hs:isName s=true)(L:List UInt8):(s.data.toList++L).headD 0≠61:=by
 unfold isName at hs;simp only[Bool.and_eq_true,decide_eq_true_eq]at hs;have hh:s.data.toList.headD 0=byte s 0:=by rw[<-head_byte hs.1,List.drop_zero]
 have hl:=hs.2.2.1;have hne:s.data.toList≠[]:=by intro e;have:=size_l s;rw[e]at this;simp at this;omega
 rw[head_app hne,hh];intro e;rw[e]at hl;exact absurd hl (by decide)
theorem ex_head:∀ (e:Ex) (d:Nat),exR isName e d=true->∀L:List UInt8,(exT e++L).headD 0≠61
 | .mk k n s sl lo o [],d,h,L=>by
  simp only[exR,Bool.and_eq_true,Bool.or_eq_true,decide_eq_true_eq]at h
  obtain⟨-,-,-,hs,hk⟩:=h
  unfold exT
  rcases hk with ⟨rfl,hn⟩|rfl
  .rw[if_pos rfl]
   obtain⟨u,rfl⟩:∃u:Nat,n=u:=⟨n.toNat,by omega⟩
   have hi:Lib.itoa (u:Int)=Lib.decDigits u:=by
    unfold Lib.itoa
    rw[if_neg (by omega)]
    rfl
   rw[hi,head_app (dd_ne u)]
   intro e
   have hdig:=dd_dig u
   match hq:Lib.decDigits u,dd_ne u with
   |c::r,_=>
    have hc:=hdig c (by rw[hq];exact List.mem_cons_self ..)
    rw[hq]at e
    have e':c=61:=e
    rw[e']at hc
    exact absurd hc (by decide)
  .rw[if_neg (by decide)]
   exact name_head (by simpa using hs) L
 | .mk k n s sl lo o [x],d,h,L=>by
  simp only[exR,Bool.and_eq_true,Bool.or_eq_true,decide_eq_true_eq]at h
  obtain⟨-,-,-,hs,hk,-⟩:=h
  unfold exT
  rcases hk with rfl|rfl|rfl
  .rw[if_pos rfl,List.append_assoc]
   exact name_head (by simpa using hs) _
  .exact(by decide:(45:UInt8)≠61)
  .exact(by decide:(33:UInt8)≠61)
 | .mk k n s sl lo o [x,y],d,h,L=>by
  simp only[exR,Bool.and_eq_true,Bool.or_eq_true,decide_eq_true_eq]at h
  obtain⟨-,-,-,-,-,hx,-⟩:=h
  unfold exT
  rw[List.append_assoc]
  exact par_head (fun L=>ex_head x (d-1) hx L)
 | .mk k n s sl lo o (_::_::_::_),d,h,L=>by simp[exR]at h
theorem lx_ex:∀ (e:Ex) (d:Nat),exR isName e d=true->∀ (L:List UInt8) (U:List Ky),Fol L->Lx L U->Lx (exT e++L) (tkE e++U)
 | .mk k n s sl lo o [],d,h,L,U,hf,hL=>by
  simp only[exR,Bool.and_eq_true,Bool.or_eq_true,decide_eq_true_eq]at h
  obtain⟨-,-,-,hs,hk⟩:=h
  unfold exT tkE
  rcases hk with ⟨rfl,hn1,hn2⟩|rfl
  .rw[if_pos rfl,if_pos rfl]
   exact lx_num hn1 hn2 hf hL
  .rw[if_neg (by decide),if_neg (by decide)]
   exact lx_name (by simpa using hs) hf hL
 | .mk k n s sl lo o [x],d,h,L,U,hf,hL=>by
  simp only[exR,Bool.and_eq_true,Bool.or_eq_true,decide_eq_true_eq]at h
  obtain⟨-,-,-,hs,hk,hx⟩:=h
  unfold exT tkE
  rcases hk with rfl|rfl|rfl
  .rw[if_pos rfl,if_pos rfl]
   simp only[List.cons_append,List.append_assoc,List.nil_append]
   exact lx_name (by simpa using hs) (by rfl) (lx_bro (lx_ex x (d-1) hx _ _ (by rfl) (lx_brs hL)))
  .show Lx ((45::par x.bind 6 (exT x))++L) ((tkS sMinus::parK x.bind 6 (tkE x))++U)
   exact lx_minus (lx_paren (fun L U=>lx_ex x (d-1) hx L U) hf hL)
  .show Lx ((33::par x.bind 6 (exT x))++L) ((tkS sNot::parK x.bind 6 (tkE x))++U)
   exact lx_not (par_head (fun L=>ex_head x (d-1) hx L)) (lx_paren (fun L U=>lx_ex x (d-1) hx L U) hf hL)
 | .mk k n s sl lo o [x,y],d,h,L,U,hf,hL=>by
  simp only[exR,Bool.and_eq_true,Bool.or_eq_true,decide_eq_true_eq]at h
  obtain⟨-,-,-,-,⟨-,ho1,ho2⟩,hx,hy⟩:=h
  unfold exT tkE
  have h1:=lx_paren (b:=y.bind) (n:=rankOf o.toNat+1) (fun L U=>lx_ex y (d-1) hy L U) hf hL
  have h2:=lx_op (q:=o.toNat) (by omega) (by omega) h1
  have h3:=lx_paren (b:=x.bind) (n:=if rankOf o.toNat=3 then 4 else rankOf o.toNat) (fun L U=>lx_ex x (d-1) hx L U) (by rfl) h2
  simp only[List.cons_append,List.append_assoc]at h3 ⊢
  exact h3
 | .mk k n s sl lo o (_::_::_::_),d,h,_,_,_,_=>by simp[exR]at h
theorem stw_kw:∀j:Fin 16,stW.getD j.val noB≠noB->isKw (stW.getD j.val noB).data.toList=true/\isLet ((stW.getD j.val noB).data.toList.headD 0)=true/\(stW.getD j.val noB).data.toList.all isAny=true/\(stW.getD j.val noB).data.toList.length<=16:=by decide +kernel
theorem dew_kw:∀j:Fin 7,1<=j.val->isKw (deW.getD j.val noB).data.toList=true/\isLet ((deW.getD j.val noB).data.toList.headD 0)=true/\(deW.getD j.val noB).data.toList.all isAny=true/\(deW.getD j.val noB).data.toList.length<=16:=by decide +kernel
theorem else_kw:isKw wElse.data.toList=true/\isLet (wElse.data.toList.headD 0)=true/\wElse.data.toList.all isAny=true/\wElse.data.toList.length<=16:=by decide +kernel
theorem lx_blk{B:List UInt8}{K:List Ky}(hB:∀ (L:List UInt8) (U:List Ky),Lx L U->Lx (B++L) (K++U)){L:List UInt8}{U:List Ky}(h:Lx L U):Lx ([123,10]++(B++(tabs n++[125]))++L) (tkS sBlO::(K++(tkS sBlS::U))):=by have h1:=lx_blo (lx_nl (hB _ _ (lx_tabs (lx_bls h) n)));simp only[List.cons_append,List.append_assoc,List.nil_append]at h1 ⊢;exact h1
mutual
theorem lx_stm:∀ (s:St) (d n:Nat),stR isName s d=true->∀ (L:List UInt8) (U:List Ky),Lx L U->Lx (stT s n++L) (tkSt s++U)
 | .mk k l c s t x y body els id sl ot lo,d,n,h,L,U,hL=>by
  unfold stR at h
  simp only[Bool.and_eq_true,Bool.or_eq_true,decide_eq_true_eq]at h
  obtain⟨⟨h1,h15⟩,hd,hs,ht,hy,hx,hb,he,hbs,hes⟩:=h
  unfold stT tkSt
  by_cases k1:k=1
  .subst k1
   rw[if_pos rfl,if_pos rfl]
   have:=lx_kw (stw_kw 1 (by decide)) (by rfl) (lx_sp (lx_name (by simpa [nName]using hs) (by rfl) (lx_eq (lx_ex x 24 (by simpa [nExpr]using hx) _ _ (by rfl) (lx_semi hL)))))
   simp only[List.cons_append,List.append_assoc,List.nil_append]
   exact this
  rw[if_neg k1,if_neg k1]
  by_cases k2:k=2
  .subst k2
   rw[if_pos rfl,if_pos rfl]
   have:=lx_name (by simpa [nName]using hs) (by rfl) (lx_eq (lx_ex x 24 (by simpa [nExpr]using hx) _ _ (by rfl) (lx_semi hL)))
   simp only[List.cons_append,List.append_assoc,List.nil_append]
   exact this
  rw[if_neg k2,if_neg k2]
  by_cases k3:k=3
  .subst k3
   rw[if_pos rfl,if_pos rfl]
   have:=lx_name (by simpa [nName]using hs) (by rfl) (lx_bro (lx_ex y 24 (by simpa using hy) _ _ (by rfl) (lx_brs (lx_eq (lx_ex x 24 (by simpa [nExpr]using hx) _ _ (by rfl) (lx_semi hL))))))
   simp only[List.cons_append,List.append_assoc,List.nil_append]
   exact this
  rw[if_neg k3,if_neg k3]
  by_cases k4:k=4
  .subst k4
   rw[if_pos rfl,if_pos rfl]
   have hx':exR isName x 24=true:=by simpa [nExpr]using hx
   by_cases hne:els=[]
   .rw[if_pos hne,if_pos hne]
    have:=lx_kw (stw_kw 4 (by decide)) (by rfl) (lx_sp (lx_ex x 24 hx' _ _ (by rfl) (lx_sp (lx_blk (n:=n) (fun L U h=>lx_stl body (d+1) (n+1) hbs L U h) hL))))
    simp only[List.cons_append,List.append_assoc,List.nil_append]at this ⊢
    exact this
   .rw[if_neg hne,if_neg hne]
    have h2:=lx_kw else_kw (by rfl) (lx_sp (lx_blk (n:=n) (fun L U h=>lx_stl els (d+1) (n+1) hes L U h) hL))
    have:=lx_kw (stw_kw 4 (by decide)) (by rfl) (lx_sp (lx_ex x 24 hx' _ _ (by rfl) (lx_sp (lx_blk (n:=n) (fun L U h=>lx_stl body (d+1) (n+1) hbs L U h) (lx_sp h2)))))
    simp only[List.cons_append,List.append_assoc,List.nil_append]at this ⊢
    exact this
  rw[if_neg k4,if_neg k4]
  by_cases k5:k=5
  .subst k5
   rw[if_pos rfl,if_pos rfl]
   have hx':exR isName x 24=true:=by simpa [nExpr]using hx
   have:=lx_kw (stw_kw 5 (by decide)) (by rfl) (lx_sp (lx_ex x 24 hx' _ _ (by rfl) (lx_sp (lx_blk (n:=n) (fun L U h=>lx_stl body (d+1) (n+1) hbs L U h) hL))))
   simp only[List.cons_append,List.append_assoc,List.nil_append]at this ⊢
   exact this
  rw[if_neg k5,if_neg k5]
  have hkw:k≠14->k≠15->isName s=true:=fun a b=>by
   have:nName k=true:=by unfold nName;simp;omega
   simpa [this]using hs
  obtain⟨q,rfl⟩:∃q:Nat,k=q:=⟨k.toNat,by omega⟩
  have hq:q<16:=by omega
  have hW:isKw (stW.getD q noB).data.toList=true/\isLet ((stW.getD q noB).data.toList.headD 0)=true/\(stW.getD q noB).data.toList.all isAny=true/\(stW.getD q noB).data.toList.length<=16:=by
   refine stw_kw ⟨q,hq⟩ ?_
   have:∀j:Fin 16,6<=j.val->stW.getD j.val noB≠noB:=by decide +kernel
   exact this ⟨q,hq⟩ (by show 6<=q;omega)
  by_cases k8:(q:Int)=8∨(q:Int)=12
  .rw[if_pos k8,if_pos k8,Int.toNat_natCast]
   have hn:nWith (q:Int)=true:=by unfold nWith;simpa using k8
   have:=lx_kw hW (by rfl) (lx_sp (lx_name (hkw (by omega) (by omega)) (by rfl) (lx_sp (lx_name (by simpa [hn]using ht) (by rfl) (lx_semi hL)))))
   simp only[List.cons_append,List.append_assoc,List.nil_append]at this ⊢
   exact this
  rw[if_neg k8,if_neg k8]
  by_cases k11:(q:Int)=11
  .obtain rfl:q=11:=by omega
   rw[if_pos k11,if_pos k11]
   have:=lx_kw hW (by rfl) (lx_sp (lx_name (hkw (by decide) (by decide)) (by rfl) (lx_sp (lx_ex x 24 (by simpa [nExpr]using hx) _ _ (by rfl) (lx_semi hL)))))
   simp only[List.cons_append,List.append_assoc,List.nil_append]at this ⊢
   exact this
  rw[if_neg k11,if_neg k11]
  by_cases k14:(q:Int)=14
  .obtain rfl:q=14:=by omega
   rw[if_pos k14,if_pos k14]
   exact lx_kw hW (by rfl) (lx_semi hL)
  rw[if_neg k14,if_neg k14]
  by_cases k15:(q:Int)=15
  .obtain rfl:q=15:=by omega
   rw[if_pos k15,if_pos k15]
   have:=lx_kw hW (by rfl) (lx_sp (lx_ex x 24 (by simpa [nExpr]using hx) _ _ (by rfl) (lx_semi hL)))
   simp only[List.cons_append,List.append_assoc,List.nil_append]at this ⊢
   exact this
  rw[if_neg k15,if_neg k15,Int.toNat_natCast]
  have:=lx_kw hW (by rfl) (lx_sp (lx_name (hkw k14 k15) (by rfl) (lx_semi hL)))
  simp only[List.cons_append,List.append_assoc,List.nil_append]at this ⊢
  exact this
theorem lx_stl:∀ (l:List St) (d n:Nat),stsR isName l d=true->∀ (L:List UInt8) (U:List Ky),Lx L U->Lx (blT l n++L) (tkSs l++U)
 | [],_,_,_,_,_,h=>by
  unfold blT tkSs
  exact h
 |s::r,d,n,h,L,U,hL=>by
  unfold stsR at h
  simp only[Bool.and_eq_true]at h
  unfold blT tkSs
  have:=lx_tabs (lx_stm s d n h.1 _ _ (lx_nl (lx_stl r d n h.2 L U hL))) n
  simp only[List.cons_append,List.append_assoc,List.nil_append]at this ⊢
  exact this
end
theorem lx_int{n:Int}{L:List UInt8}{U:List Ky}(h0: -2147483647<=n)(h1:n<=2147483647)(hf:Fol L)(h:Lx L U):Lx (Lib.itoa n++L) (tkNum n++U):=by
 unfold tkNum;by_cases hn:n<0
 .rw[if_pos hn];obtain⟨u,rfl⟩:∃u:Nat,n= -(u:Int):=⟨n.natAbs,by omega⟩;have e1:Lib.itoa (-(u:Int))=45::Lib.itoa (u:Int):=by unfold Lib.itoa;rw[if_pos hn,if_neg (by omega),show (-(u:Int)).natAbs=u by omega,Int.toNat_natCast]
  rw[e1,Int.neg_neg];exact lx_minus (lx_num (by omega) (by omega) hf h)
 .rw[if_neg hn];exact lx_num (by omega) h1 hf h
theorem lx_decl{d:De}(h:deR isName d=true){L:List UInt8}{U:List Ky}(hL:Lx L U):Lx (deT d++L) (tkDe d++U):=by
 obtain⟨k,l,c,s,n,body⟩:=d;unfold deR at h;simp only[Bool.and_eq_true,Bool.or_eq_true,decide_eq_true_eq]at h;obtain⟨hs,hb,hk⟩:=h;unfold deT tkDe;dsimp only;by_cases k1:k=1
 .subst k1;rw[if_pos rfl]at hk ⊢;rw[if_pos rfl];simp only[Bool.and_eq_true,decide_eq_true_eq]at hk;have:=lx_kw (dew_kw 1 (by decide)) (by rfl) (lx_sp (lx_name hs (by rfl) (lx_eq (lx_int hk.1 hk.2 (by rfl) (lx_semi (lx_nl hL))))));simp only[List.cons_append,List.append_assoc,List.nil_append]at this ⊢;exact this
 rw[if_neg k1]at hk ⊢;rw[if_neg k1];by_cases k2:k=2
 .subst k2;rw[if_pos (.inl rfl)]at hk;rw[if_pos rfl,if_pos (.inl rfl)];simp only[Bool.and_eq_true,decide_eq_true_eq]at hk;have:=lx_kw (dew_kw 2 (by decide)) (by rfl) (lx_sp (lx_name hs (by rfl) (lx_sp (lx_num hk.1 hk.2 (by rfl) (lx_semi (lx_nl hL))))));simp only[List.cons_append,List.append_assoc,List.nil_append]at this ⊢;exact this
 rw[if_neg k2];by_cases k3:k=3
 .subst k3;rw[if_pos rfl,if_neg (by decide),if_pos (.inl rfl)];have:=lx_kw (dew_kw 3 (by decide)) (by rfl) (lx_sp (lx_name hs (by rfl) (lx_semi (lx_nl hL))));simp only[List.cons_append,List.append_assoc,List.nil_append]at this ⊢;exact this
 rw[if_neg k3];by_cases k4:k=4
 .subst k4;rw[if_pos rfl,if_neg (by decide),if_pos (.inr rfl)];have:=lx_kw (dew_kw 4 (by decide)) (by rfl) (lx_sp (lx_name hs (by rfl) (lx_semi (lx_nl hL))));simp only[List.cons_append,List.append_assoc,List.nil_append]at this ⊢;exact this
 rw[if_neg k4];by_cases k5:k=5
 .subst k5;rw[if_pos (.inr rfl)]at hk;rw[if_pos rfl,if_pos (.inr rfl)];simp only[Bool.and_eq_true,decide_eq_true_eq]at hk;have:=lx_kw (dew_kw 5 (by decide)) (by rfl) (lx_sp (lx_name hs (by rfl) (lx_sp (lx_num hk.1 hk.2 (by rfl) (lx_semi (lx_nl hL))))));simp only[List.cons_append,List.append_assoc,List.nil_append]at this ⊢;exact this
 rw[if_neg (by omega),if_neg (by omega)]at hk;rw[if_neg k5,if_neg (by omega),if_neg (by omega)];have hbd:stsR isName body 1=true:=by
  split at hk
  .simp only[Bool.and_eq_true,decide_eq_true_eq]at hk;exact hk.2
  .cases hk
 have:=lx_kw (dew_kw 6 (by decide)) (by rfl) (lx_sp (lx_name hs (by rfl) (lx_sp (lx_blk (n:=0) (fun L U h=>lx_stl body 1 1 hbd L U h) (lx_nl hL)))));unfold blockT;simp only[List.cons_append,List.append_assoc,List.nil_append]at this ⊢;exact this
theorem lx_prog:∀ {l:List De},desR isName l=true->Lx (prT l) (l.flatMap tkDe)
 | [],_=> .nil fun c hc=>by cases hc
 |d::r,h=>by
  have h2:deR isName d=true/\desR isName r=true:=by
   unfold desR at h ⊢
   simpa using h
  exact lx_decl h2.1 (lx_prog h2.2)
end Go.Proofs.YtgppcdfgdaggjaaGreatDoor
