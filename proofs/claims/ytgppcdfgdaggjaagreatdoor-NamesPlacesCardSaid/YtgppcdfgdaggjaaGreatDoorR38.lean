/- Texts laid together. No condition but what each law says. -/
import Derived.Test.YtgppcdfgdaggjaaGreatDoorR37
set_option maxHeartbeats 4000000
namespace Go.Proofs.YtgppcdfgdaggjaaGreatDoor
open Go.RowKit
variable {e:Ex}{d i j k:Nat}{s t:ByteArray}
mutual
def St.can:St->St
 | .mk k _ _ s t x y body els _ _ _ _=> .mk k 0 0 s t (exZn x) (exZn y) (St.cans body) (St.cans els) 0 0 0 false
def St.cans:List St->List St
 | []=> []
 |s::r=>s.can::St.cans r
end
def De.can(d:De):De:=⟨d.kind,0,0,d.name,d.num,St.cans d.body⟩
mutual
theorem exZn_exZn:∀e:Ex,exZn (exZn e)=exZn e
 | .mk k n s _ _ o args=>by simp[exZn,exCs_exCs args]
theorem exCs_exCs:∀l:List Ex,exZs (exZs l)=exZs l
 | []=>by simp[exZs]
 |x::r=>by simp[exZs,exZn_exZn x,exCs_exCs r]
end
theorem exC_z(h:exZ e=true):exZn e=exZn zEx:=by obtain⟨k,n,s,sl,lo,o,args⟩:=e;unfold exZ at h;simp only[Bool.and_eq_true,decide_eq_true_eq]at h;obtain⟨rfl,rfl,rfl,rfl,ha⟩:=h;obtain rfl:=List.eq_nil_of_length_eq_zero ha;simp[exZn,exZs,zEx]
section
variable {T:List Wd}
theorem want_at{V:List Ky}(h:AtT T i (tkS s::V)):want T s i=some (.ok ((),i+1))/\AtT T (i+1) V:=by
 obtain⟨h1,h2,h3⟩:=h.cons;have e:isT T i s=true:=by rw[isT_of h1 h2];simp[tkS]
 exact⟨by rw[want,e,if_pos rfl],h3⟩
theorem name_at{V:List Ky}(h:AtT T i (tkN s::V)):pName T i=some (.ok (s,i+1))/\AtT T (i+1) V:=by obtain⟨h1,h2,h3⟩:=h.cons;refine⟨?_,h3⟩;rw[pName,if_pos (by rw[kind_of h1 h2];rfl),text_of h2];rfl
theorem num_at{n:Int}{V:List Ky}(h:AtT T i (tkI n::V)):pNumb T i=some (.ok (n,i+1))/\AtT T (i+1) V:=by obtain⟨h1,h2,h3⟩:=h.cons;refine⟨?_,h3⟩;rw[pNumb,if_pos (by rw[kind_of h1 h2];rfl),num_of h2];rfl
theorem ex_at{x:Ex}{V:List Ky}(hx:exR isName x 24=true)(hs:opOf s=0/\decide (s=sBrO)=false)(h:AtT T i (tkE x++(tkS s::V))):
  pX T i=some (.ok (exZn x,i+(tkE x).length))/\AtT T (i+(tkE x).length) (tkS s::V):=by
 obtain⟨h1,h2,h3⟩:=h.right.cons;have e4:opAt T (i+(tkE x).length)=0:=by rw[opAt_of h1 h2];simp only[tkS,if_true];exact hs.1
 have e6:isT T (i+(tkE x).length) sBrO=false:=by rw[isT_of h1 h2];show ((decide ((4:Int)=3)||decide ((4:Int)=4))&&decide (s=sBrO))=false;rw[hs.2];exact Bool.and_false _
 refine⟨?_,h.right⟩;show xE T 1 i=_;rw[(parse_ex T isName x 24 hx).ex 1 i (Nat.le_refl _) (bind_pos isName x 24 hx) (by omega) h.left e6 (.inl e4),xL_stop (by omega) (.inl e4)]
theorem kw_at{V:List Ky}(h:AtT T i (tkK s::V)):i<T.length/\kindAt T i=3/\(T.getD i default).text=s/\AtT T (i+1) V:=by obtain⟨h1,h2,h3⟩:=h.cons;exact⟨h1,by rw[kind_of h1 h2];rfl,text_of h2,h3⟩
theorem kw_isT{V:List Ky}(h:AtT T i (tkK s::V)):isT T i t=decide (s=t):=by obtain⟨h1,h2,h3⟩:=h.cons;rw[isT_of h1 h2];show ((decide ((3:Int)=3)||decide ((3:Int)=4))&&decide (s=t))=_;simp
theorem sg_isT{V:List Ky}(h:AtT T i (tkS s::V)):isT T i t=decide (s=t):=by obtain⟨h1,h2,h3⟩:=h.cons;rw[isT_of h1 h2];show ((decide ((4:Int)=3)||decide ((4:Int)=4))&&decide (s=t))=_;simp
theorem semi_ok:opOf sSemi=0/\decide (sSemi=sBrO)=false:=by decide +kernel
theorem brs_ok:opOf sBrS=0/\decide (sBrS=sBrO)=false:=by decide +kernel
theorem blo_ok:opOf sBlO=0/\decide (sBlO=sBrO)=false:=by decide +kernel
theorem stw_of:∀j:Fin 16,stW.getD j.val noB≠noB->stOf (stW.getD j.val noB)=j.val:=by decide +kernel
theorem tkSt_head(s:St)(d:Nat)(h:stR isName s d=true):∃u V,tkSt s=u::V/\(u.kind=1∨(u.kind=3/\decide (u.text=sBlS)=false/\decide (u.text=wElse)=false)):=by
 obtain⟨k,l,c,s,t,x,y,body,els,id,sl,ot,lo⟩:=s;unfold stR at h;simp only[Bool.and_eq_true,Bool.or_eq_true,decide_eq_true_eq]at h;obtain⟨⟨h1,h15⟩,-⟩:=h;have hw:∀j:Fin 16,decide (stW.getD j.val noB=sBlS)=false/\decide (stW.getD j.val noB=wElse)=false:=by decide +kernel
 have hk:∀ (q:Nat) (V:List Ky),q<16->∃u V',tkK (stW.getD q noB)::V=u::V'/\(u.kind=1∨(u.kind=3/\decide (u.text=sBlS)=false/\decide (u.text=wElse)=false)):=fun q V hq=>⟨_,_,z,.inr ⟨z,hw ⟨q,hq⟩⟩⟩;unfold tkSt;repeat' split
 all_goals first
  |exact⟨_,_,z,.inl z⟩
  |exact hk _ _ (by omega)
theorem blk_rest{U V:List Ky}(h:AtT T i (tkS sBlO::(U++(tkS sBlS::V)))):AtT T (i+(U.length+2)) V:=by have h2:=((h.cons).2.2.right.cons).2.2;rw[show i+(U.length+2)=i+1+U.length+1 by omega];exact h2
mutual
theorem parse_st:∀ (s:St) (d i:Nat) (V:List Ky),stR isName s d=true->AtT T i (tkSt s++V)->isT T (i+(tkSt s).length) wElse=false->∃s',xS T i=some (.ok (s',i+(tkSt s).length))/\s'.can=s.can
 | .mk k l c s t x y body els id sl ot lo,d,i,V,h,hA,hel=>by
  unfold stR at h
  simp only[Bool.and_eq_true,Bool.or_eq_true,decide_eq_true_eq]at h
  obtain⟨⟨h1,h15⟩,hd,hs,ht,hy,hx,hb,he,hbs,hes⟩:=h
  have hi:i<=T.length:=by
   obtain⟨u,W,hu,_⟩:=tkSt_head (.mk k l c s t x y body els id sl ot lo) d (by unfold stR;simp only[Bool.and_eq_true,Bool.or_eq_true,decide_eq_true_eq];exact⟨⟨h1,h15⟩,hd,hs,ht,hy,hx,hb,he,hbs,hes⟩)
   rw[hu]at hA
   exact Nat.le_of_lt (hA.cons).1
  have hbnil:k≠4->k≠5->body=[]:=fun a b=>List.eq_nil_of_length_eq_zero (by rcases hb with (h|h)|h<;>omega)
  have henil:k≠4->els=[]:=fun a=>List.eq_nil_of_length_eq_zero (by rcases he with h|h<;>omega)
  have hynil:k≠3->exZn y=exZn zEx:=fun a=>exC_z (by rw[if_neg a]at hy;exact hy)
  have htn:nWith k=false->t=noB:=fun a=>by simpa [a]using ht
  have hsn:nName k=false->s=noB:=fun a=>by simpa [a]using hs
  have hxn:nExpr k=false->exZn x=exZn zEx:=fun a=>exC_z (by simpa [a]using hx)
  obtain⟨P,hP⟩:∃P,plOf T i=P:=⟨_,rfl⟩
  rw[xS_eq T hi,hP]
  clear hP
  unfold tkSt at hA hel ⊢
  by_cases k1:k=1
  .subst k1
   rw[if_pos rfl]at hA hel ⊢
   simp only[List.cons_append,List.append_assoc,List.nil_append]at hA
   obtain⟨g1,g2,g3,hA⟩:=kw_at hA
   obtain⟨n1,hA⟩:=name_at hA
   obtain⟨n2,hA⟩:=want_at hA
   obtain⟨n3,hA⟩:=ex_at (by simpa [nExpr]using hx) semi_ok hA
   obtain⟨n4,hA⟩:=want_at hA
   rw[if_neg (by rw[g2];decide),g3,show stOf (stW.getD 1 noB)=1 from stw_of 1 (by decide),if_neg (by rw[g2];decide),if_neg (by decide),if_neg (by decide),pPlain,if_neg (by decide),if_neg (by decide),n1,andT_ok,if_pos rfl,n2,andT_ok,n3,andT_ok,n4,andT_ok]
   refine⟨_,congrArg some (congrArg Except.ok (Prod.ext rfl ?_)),?_⟩
   .simp
    omega
   .simp[mkSt,St.can,St.cans,exZn_exZn,hbnil,henil,hynil,htn,nWith]
  rw[if_neg k1]at hA hel ⊢
  by_cases k2:k=2
  .subst k2
   rw[if_pos rfl]at hA hel ⊢
   simp only[List.cons_append,List.append_assoc,List.nil_append]at hA
   obtain⟨g1,g2,-⟩:=hA.cons
   have g2:kindAt T i=1:=by rw[kind_of g1 g2];rfl
   obtain⟨n1,hA⟩:=name_at hA
   have n0:isT T (i+1) sBrO=false:=by rw[sg_isT hA];decide +kernel
   obtain⟨n2,hA⟩:=want_at hA
   obtain⟨n3,hA⟩:=ex_at (by simpa [nExpr]using hx) semi_ok hA
   obtain⟨n4,hA⟩:=want_at hA
   rw[if_pos g2,pAssign,n1,andT_ok,n0,if_neg (by decide),n2,andT_ok,n3,andT_ok,n4,andT_ok]
   refine⟨_,congrArg some (congrArg Except.ok (Prod.ext rfl ?_)),?_⟩
   .simp
    omega
   .simp[mkSt,St.can,St.cans,exZn_exZn,hbnil,henil,hynil,htn,nWith]
  rw[if_neg k2]at hA hel ⊢
  by_cases k3:k=3
  .subst k3
   rw[if_pos rfl]at hA hel ⊢
   simp only[List.cons_append,List.append_assoc,List.nil_append]at hA
   obtain⟨g1,g2,-⟩:=hA.cons
   have g2:kindAt T i=1:=by rw[kind_of g1 g2];rfl
   obtain⟨n1,hA⟩:=name_at hA
   have n0:isT T (i+1) sBrO=true:=by rw[sg_isT hA];decide +kernel
   obtain⟨-,hA⟩:=want_at hA
   obtain⟨n2,hA⟩:=ex_at (by simpa using hy) brs_ok hA
   obtain⟨n3,hA⟩:=want_at hA
   obtain⟨n4,hA⟩:=want_at hA
   obtain⟨n5,hA⟩:=ex_at (by simpa [nExpr]using hx) semi_ok hA
   obtain⟨n6,hA⟩:=want_at hA
   rw[if_pos g2,pAssign,n1,andT_ok,n0,if_pos rfl,n2,andT_ok,n3,andT_ok,n4,andT_ok,n5,andT_ok,n6,andT_ok]
   refine⟨_,congrArg some (congrArg Except.ok (Prod.ext rfl ?_)),?_⟩
   .simp
    omega
   .simp[mkSt,St.can,St.cans,exZn_exZn,hbnil,henil,htn,nWith]
  rw[if_neg k3]at hA hel ⊢
  by_cases k4:k=4
  .subst k4
   rw[if_pos rfl]at hA hel ⊢
   have hx':exR isName x 24=true:=by simpa [nExpr]using hx
   by_cases hne:els=[]
   .rw[if_pos hne]at hA hel ⊢
    simp only[List.cons_append,List.append_assoc,List.nil_append]at hA
    obtain⟨g1,g2,g3,hA⟩:=kw_at hA
    obtain⟨n1,hA⟩:=ex_at hx' blo_ok hA
    obtain⟨l',n2,n3⟩:=parse_blk body (d+1) _ V hbs hA
    have n4:isT T (i+1+(tkE x).length+((tkSs body).length+2)) wElse=false:=by
     rw[<-hel]
     congr 1
     simp
     omega
    rw[if_neg (by rw[g2];decide),g3,show stOf (stW.getD 4 noB)=4 from stw_of 4 (by decide),if_neg (by rw[g2];decide),if_neg (by decide),if_pos rfl,n1,andT_ok,n2,andT_ok,n4,if_neg (by decide)]
    refine⟨_,congrArg some (congrArg Except.ok (Prod.ext rfl ?_)),?_⟩
    .simp
     omega
    .simp[mkSt,St.can,n3,exZn_exZn,hne,hynil,htn,hsn,nWith,nName,St.cans]
   .rw[if_neg hne]at hA hel ⊢
    simp only[List.cons_append,List.append_assoc,List.nil_append]at hA
    obtain⟨g1,g2,g3,hA⟩:=kw_at hA
    obtain⟨n1,hA⟩:=ex_at hx' blo_ok hA
    obtain⟨l',n2,n3⟩:=parse_blk body (d+1) _ _ hbs hA
    have hA2:=blk_rest hA
    have n4:isT T (i+1+(tkE x).length+((tkSs body).length+2)) wElse=true:=by
     rw[kw_isT hA2]
     exact decide_eq_true rfl
    obtain⟨l2,n5,n6⟩:=parse_blk els (d+1) _ V hes (kw_at hA2).2.2.2
    rw[if_neg (by rw[g2];decide),g3,show stOf (stW.getD 4 noB)=4 from stw_of 4 (by decide),if_neg (by rw[g2];decide),if_neg (by decide),if_pos rfl,n1,andT_ok,n2,andT_ok,n4,if_pos rfl,n5,andT_ok]
    refine⟨_,congrArg some (congrArg Except.ok (Prod.ext rfl ?_)),?_⟩
    .simp
     omega
    .simp[mkSt,St.can,n3,n6,exZn_exZn,hynil,htn,hsn,nWith,nName]
  rw[if_neg k4]at hA hel ⊢
  by_cases k5:k=5
  .subst k5
   rw[if_pos rfl]at hA hel ⊢
   have hx':exR isName x 24=true:=by simpa [nExpr]using hx
   simp only[List.cons_append,List.append_assoc,List.nil_append]at hA
   obtain⟨g1,g2,g3,hA⟩:=kw_at hA
   obtain⟨n1,hA⟩:=ex_at hx' blo_ok hA
   obtain⟨l',n2,n3⟩:=parse_blk body (d+1) _ V hbs hA
   rw[if_neg (by rw[g2];decide),g3,show stOf (stW.getD 5 noB)=5 from stw_of 5 (by decide),if_neg (by rw[g2];decide),if_pos rfl,n1,andT_ok,n2,andT_ok]
   refine⟨_,congrArg some (congrArg Except.ok (Prod.ext rfl ?_)),?_⟩
   .simp
    omega
   .simp[mkSt,St.can,n3,exZn_exZn,henil,hynil,htn,hsn,nWith,nName,St.cans]
  rw[if_neg k5]at hA hel ⊢
  obtain⟨q,rfl⟩:∃q:Nat,k=q:=⟨k.toNat,by omega⟩
  have hq:q<16:=by omega
  have hW:stOf (stW.getD q noB)=q:=by
   refine stw_of ⟨q,hq⟩ ?_
   have:∀j:Fin 16,6<=j.val->stW.getD j.val noB≠noB:=by decide +kernel
   exact this ⟨q,hq⟩ (by show 6<=q;omega)
  have hbn:=hbnil k4 k5
  have hen:=henil k4
  have hyn:=hynil k3
  have hplain:∀ {R:PR St},pPlain T P q (i+1)=R->kindAt T i=3->(T.getD i default).text=stW.getD q noB->
    (if kindAt T i=1 then pAssign T P i
    else if kindAt T i≠3∨stOf (T.getD i default).text=0 then some (.error i)
    else if stOf (T.getD i default).text=5 then andT (pX T (i+1)) fun x j=>andT (xB T j) fun b m=>some (.ok (mkSt 5 P noB noB x zEx b [],m))
    else if stOf (T.getD i default).text=4 then andT (pX T (i+1)) fun x j=>andT (xB T j) fun b m=>
     if isT T m wElse=true then andT (xB T (m+1)) fun c n=>some (.ok (mkSt 4 P noB noB x zEx b c,n)) else some (.ok (mkSt 4 P noB noB x zEx b [],m))
    else pPlain T P (stOf (T.getD i default).text) (i+1))=R:=fun hR g2 g3=>by
   rw[if_neg (by rw[g2];decide),g3,hW,if_neg (by rw[g2];omega),if_neg (by omega),if_neg (by omega),hR]
  have hkn:(q:Int)≠14->(q:Int)≠15->(nName (q:Int)=true):=fun a b=>by unfold nName;simp;omega
  by_cases k8:(q:Int)=8∨(q:Int)=12
  .rw[if_pos k8,Int.toNat_natCast]at hA hel ⊢
   simp only[List.cons_append,List.nil_append]at hA
   obtain⟨g1,g2,g3,hA⟩:=kw_at hA
   obtain⟨n1,hA⟩:=name_at hA
   obtain⟨n2,hA⟩:=name_at hA
   obtain⟨n3,hA⟩:=want_at hA
   have hxz:=hxn (by unfold nExpr;simp;omega)
   refine⟨mkSt q P s t zEx zEx [] [],?_,?_⟩
   .refine hplain ?_ g2 g3
    rw[pPlain,if_neg (by omega),if_neg (by omega),n1,andT_ok,if_neg (by omega),if_pos (by omega),n2,andT_ok,n3,andT_ok]
    simp
    try omega
   .simp[mkSt,St.can,hbn,hen,hyn,hxz,St.cans]
  rw[if_neg k8]at hA hel ⊢
  have htz:=htn (by unfold nWith;simp;omega)
  by_cases k11:(q:Int)=11
  .obtain rfl:q=11:=by omega
   rw[if_pos k11]at hA hel ⊢
   simp only[List.cons_append,List.append_assoc,List.nil_append]at hA
   obtain⟨g1,g2,g3,hA⟩:=kw_at hA
   obtain⟨n1,hA⟩:=name_at hA
   obtain⟨n2,hA⟩:=ex_at (by simpa [nExpr]using hx) semi_ok hA
   obtain⟨n3,hA⟩:=want_at hA
   refine⟨mkSt 11 P s noB (exZn x) zEx [] [],?_,?_⟩
   .refine hplain ?_ g2 g3
    rw[pPlain,if_neg (by omega),if_neg (by omega),n1,andT_ok,if_neg (by omega),if_neg (by omega),if_pos rfl,n2,andT_ok,n3,andT_ok]
    simp
    omega
   .simp[mkSt,St.can,hbn,hen,hyn,htz,exZn_exZn,St.cans]
  rw[if_neg k11]at hA hel ⊢
  by_cases k14:(q:Int)=14
  .obtain rfl:q=14:=by omega
   rw[if_pos k14]at hA hel ⊢
   simp only[List.cons_append,List.nil_append]at hA
   obtain⟨g1,g2,g3,hA⟩:=kw_at hA
   obtain⟨n3,hA⟩:=want_at hA
   have hxz:=hxn (by decide)
   have hsz:=hsn (by decide)
   refine⟨mkSt 14 P noB noB zEx zEx [] [],?_,?_⟩
   .refine hplain ?_ g2 g3
    rw[pPlain,if_pos rfl,n3,andT_ok]
    simp
   .simp[mkSt,St.can,hbn,hen,hyn,htz,hxz,hsz,St.cans]
  rw[if_neg k14]at hA hel ⊢
  by_cases k15:(q:Int)=15
  .obtain rfl:q=15:=by omega
   rw[if_pos k15]at hA hel ⊢
   simp only[List.cons_append,List.append_assoc,List.nil_append]at hA
   obtain⟨g1,g2,g3,hA⟩:=kw_at hA
   obtain⟨n2,hA⟩:=ex_at (by simpa [nExpr]using hx) semi_ok hA
   obtain⟨n3,hA⟩:=want_at hA
   have hsz:=hsn (by decide)
   refine⟨mkSt 15 P noB noB (exZn x) zEx [] [],?_,?_⟩
   .refine hplain ?_ g2 g3
    rw[pPlain,if_neg (by omega),if_pos rfl,n2,andT_ok,n3,andT_ok]
    simp
    omega
   .simp[mkSt,St.can,hbn,hen,hyn,htz,hsz,exZn_exZn,St.cans]
  rw[if_neg k15,Int.toNat_natCast]at hA hel ⊢
  simp only[List.cons_append,List.nil_append]at hA
  obtain⟨g1,g2,g3,hA⟩:=kw_at hA
  obtain⟨n1,hA⟩:=name_at hA
  obtain⟨n3,hA⟩:=want_at hA
  have hxz:=hxn (by unfold nExpr;simp;omega)
  refine⟨mkSt q P s noB zEx zEx [] [],?_,?_⟩
  .refine hplain ?_ g2 g3
   rw[pPlain,if_neg (by omega),if_neg (by omega),n1,andT_ok,if_neg (by omega),if_neg (by omega),if_neg (by omega),n3,andT_ok]
   simp
   try omega
  .simp[mkSt,St.can,hbn,hen,hyn,htz,hxz,St.cans]
theorem parse_sts:∀ (l:List St) (d i:Nat) (acc:List St) (V:List Ky),stsR isName l d=true->AtT T i (tkSs l++(tkS sBlS::V))->∃l',xSs T acc i=some (.ok (acc++l',i+((tkSs l).length+1)))/\St.cans l'=St.cans l
 | [],d,i,acc,V,_,hA=>by
  unfold tkSs at hA
  rw[List.nil_append]at hA
  obtain⟨h1,h2,_⟩:=hA.cons
  refine⟨[],?_,rfl⟩
  rw[xSs_eq T (by omega),if_pos (by rw[sg_isT hA];exact decide_eq_true rfl)]
  simp[tkSs]
 |s::r,d,i,acc,V,h,hA=>by
  unfold stsR at h
  simp only[Bool.and_eq_true]at h
  have hh:=tkSt_head s d h.1
  unfold tkSs at hA ⊢
  rw[List.append_assoc]at hA
  have hA1:=hA
  obtain⟨u,W,hu,hk⟩:=hh
  rw[hu,List.cons_append]at hA1
  obtain⟨g1,g2,-⟩:=hA1.cons
  have e1:isT T i sBlS=false:=by
   rw[isT_of g1 g2]
   rcases hk with hk|⟨hk,hk2,-⟩
   .rw[hk];simp
   .rw[hk2];simp
  have hA2:=hA.right
  have e2:isT T (i+(tkSt s).length) wElse=false:=by
   match r,h.2,hA2 with
   | [],_,hA2=>
    unfold tkSs at hA2
    rw[List.nil_append]at hA2
    rw[sg_isT hA2]
    decide +kernel
   |s2::r2,h2,hA2=>
    unfold stsR at h2
    simp only[Bool.and_eq_true]at h2
    obtain⟨u2,W2,hu2,hk2⟩:=tkSt_head s2 d h2.1
    unfold tkSs at hA2
    rw[List.append_assoc,hu2,List.cons_append]at hA2
    obtain⟨f1,f2,-⟩:=hA2.cons
    rw[isT_of f1 f2]
    rcases hk2 with hk|⟨hk,-,hk3⟩
    .rw[hk];simp
    .rw[hk3];simp
  obtain⟨s',n1,n2⟩:=parse_st s d i _ h.1 hA e2
  obtain⟨l',n3,n4⟩:=parse_sts r d (i+(tkSt s).length) (acc++[s']) V h.2 hA2
  refine⟨s'::l',?_,?_⟩
  .rw[xSs_eq T (by omega),e1,if_neg (by decide),n1,andT_ok,n3]
   refine congrArg some (congrArg Except.ok (Prod.ext ?_ ?_))
   .simp
   .simp
    omega
  .simp[St.cans,n2,n4]
theorem parse_blk:∀ (l:List St) (d i:Nat) (V:List Ky),stsR isName l d=true->AtT T i (tkS sBlO::(tkSs l++(tkS sBlS::V)))->∃l',xB T i=some (.ok (l',i+((tkSs l).length+2)))/\St.cans l'=St.cans l
 |l,d,i,V,h,hA=>by
  obtain⟨n1,hA2⟩:=want_at hA
  obtain⟨l',n2,n3⟩:=parse_sts l d (i+1) [] V h hA2
  refine⟨l',?_,n3⟩
  rw[xB_eq T (by have:=(hA.cons).1;omega),n1,andT_ok,n2,List.nil_append]
  refine congrArg some (congrArg Except.ok (Prod.ext rfl ?_))
  show i+1+((tkSs l).length+1)=i+((tkSs l).length+2)
  omega
end
end
theorem name_16o{c:Prop}[Decidable c](h:(if c then isName s else decide (s=noB))=true):s.size<=16:=by
 split at h
 .exact name_16 h
 .simp only[decide_eq_true_eq]at h;subst h;decide
def Ex.smd:Nat->Ex->Prop
 |0,_=>False
 |d+1,.mk _ _ s _ _ _ args=>s.size<=16/\∀j,j<args.length->Ex.smd d (args.getD j zEx)
theorem exR_sm:∀ (d:Nat) (e:Ex),exR isName e d=true->e.smd d
 |0,.mk k n s sl lo o args,h=>by
  rw[exR_eq]at h
  simp at h
 |d+1,.mk k n s sl lo o args,h=>by
  rw[exR_eq]at h
  simp only[Bool.and_eq_true]at h
  unfold Ex.smd
  refine⟨name_16o h.2.2.2.1,fun j hj=>?_⟩
  have hl:=h.2.2.2.2.2.2
  unfold exsR at hl
  refine exR_sm d _ (List.all_eq_true.1 hl _ ?_)
  rw[List.getD_eq_getElem?_getD,List.getElem?_eq_getElem hj]
  exact List.getElem_mem hj
theorem exZ_smd(h:exZ e=true):e.smd 24:=by obtain⟨k,n,s,sl,lo,o,args⟩:=e;simp only[exZ,Bool.and_eq_true,decide_eq_true_eq]at h;obtain⟨-,-,rfl,-,h5⟩:=h;unfold Ex.smd;exact⟨by decide,fun j hj=>by omega⟩
theorem exRZ_sm{c:Prop}[Decidable c](h:(if c then exR isName e 24 else exZ e)=true):e.smd 24:=by
 split at h
 .exact exR_sm _ _ h
 .exact exZ_smd h
theorem sm_depth:∀ {d:Nat} {e:Ex},e.smd d->e.depth<=d
 |0,_,h=>h.elim
 |d+1,.mk _ _ s _ _ _ args,h=>by
  unfold Ex.smd at h
  rw[Ex.depth]
  have:=(depths_le d args).2 fun j hj=>sm_depth (h.2 j hj)
  omega
theorem exC_bind(e:Ex):(exZn e).bind=e.bind:=by obtain⟨k,n,s,sl,lo,o,args⟩:=e;simp[exZn,Ex.bind]
theorem exR_can(nm:ByteArray->Bool):∀ (e:Ex) (d:Nat),exR nm (exZn e) d=exR nm e d
 | .mk k n s sl lo o [],d=>by simp[exZn,exZs,exR]
 | .mk k n s sl lo o [x],d=>by simp[exZn,exZs,exR,exR_can nm x]
 | .mk k n s sl lo o [x,y],d=>by simp[exZn,exZs,exR,exR_can nm x,exR_can nm y]
 | .mk k n s sl lo o (_::_::_::_),d=>by simp[exZn,exZs,exR]
theorem exCs_len:∀l:List Ex,(exZs l).length=l.length
 | []=>by simp[exZs]
 |_::r=>by simp[exZs,exCs_len r]
theorem exZ_can(e:Ex):exZ (exZn e)=exZ e:=by obtain⟨k,n,s,sl,lo,o,args⟩:=e;simp[exZn,exZ,exCs_len]
theorem exT_can:∀e:Ex,exT (exZn e)=exT e
 | .mk k n s sl lo o []=>by simp[exZn,exZs,exT]
 | .mk k n s sl lo o [x]=>by simp[exZn,exZs,exT,exT_can x,exC_bind]
 | .mk k n s sl lo o [x,y]=>by simp[exZn,exZs,exT,exT_can x,exT_can y,exC_bind]
 | .mk k n s sl lo o (_::_::_::_)=>by simp[exZn,exZs,exT]
theorem cans_len:∀l:List St,(St.cans l).length=l.length
 | []=>by simp[St.cans]
 |_::r=>by simp[St.cans,cans_len r]
theorem cans_nil{l:List St}:St.cans l=[]↔l=[]:=by cases l<;>simp[St.cans]
mutual
theorem stR_can (nm:ByteArray->Bool):∀ (s:St) (d:Nat),stR nm s.can d=stR nm s d
 | .mk k l c s t x y body els id sl ot lo,d=>by
  unfold St.can stR
  simp only[exR_can,exZ_can,cans_len,stsR_can nm body,stsR_can nm els]
theorem stsR_can (nm:ByteArray->Bool):∀ (l:List St) (d:Nat),stsR nm (St.cans l) d=stsR nm l d
 | [],d=>by unfold St.cans;rfl
 |s::r,d=>by
  unfold St.cans stsR
  rw[stR_can nm s,stsR_can nm r]
end
mutual
theorem stT_can:∀ (s:St) (n:Nat),stT s.can n=stT s n
 | .mk k l c s t x y body els id sl ot lo,n=>by
  unfold St.can stT
  simp only[exT_can,cans_nil,blT_cans body,blT_cans els]
theorem blT_cans:∀ (l:List St) (n:Nat),blT (St.cans l) n=blT l n
 | [],n=>by unfold St.cans;rfl
 |s::r,n=>by
  unfold St.cans blT
  rw[stT_can s,blT_cans r]
end
theorem deR_can(nm:ByteArray->Bool)(d:De):deR nm d.can=deR nm d:=by unfold deR De.can;simp only[cans_len,stsR_can]
theorem deT_can(d:De):deT d.can=deT d:=by unfold deT De.can blockT;simp only[blT_cans]
theorem prT_can:∀l:List De,prT (l.map De.can)=prT l
 | []=>rfl
 |d::r=>by
  show deT d.can++prT (r.map De.can)=deT d++prT r
  rw[deT_can,prT_can r]
theorem desR_can(nm:ByteArray->Bool):∀l:List De,desR nm (l.map De.can)=desR nm l
 | []=>rfl
 |d::r=>by
  show (deR nm d.can&&desR nm (r.map De.can))=(deR nm d&&desR nm r)
  rw[deR_can,desR_can nm r]
theorem ex_deep{x:Ex}{c:Prop}[Decidable c](h:(if c then exR isName x 24 else exZ x)=true):x.depth<=24:=sm_depth (exRZ_sm h)
mutual
theorem stR_flat:∀ (s:St) (d:Nat),stR isName s d=true->s.deep d=none
 | .mk k l c s t x y body els id sl ot lo,d,h=>by
  unfold stR at h
  simp only[Bool.and_eq_true,Bool.or_eq_true,decide_eq_true_eq]at h
  obtain⟨-,hd,-,-,hy,hx,-,-,hb,he⟩:=h
  have h1:=ex_deep hx
  have h2:=ex_deep hy
  unfold St.deep
  rw[if_neg (by omega),stsR_flat body (d+1) hb]
  exact stsR_flat els (d+1) he
theorem stsR_flat:∀ (l:List St) (d:Nat),stsR isName l d=true->St.deeps l d=none
 | [],d,_=>by unfold St.deeps;rfl
 |s::r,d,h=>by
  unfold stsR at h
  simp only[Bool.and_eq_true]at h
  unfold St.deeps
  rw[stR_flat s d h.1]
  exact stsR_flat r d h.2
end
theorem deR_flat{d:De}(h:deR isName d=true):St.deeps d.body 1=none:=by
 obtain⟨k,l,c,s,n,body⟩:=d;unfold deR at h;simp only[Bool.and_eq_true,Bool.or_eq_true,decide_eq_true_eq]at h;obtain⟨-,hb,hk⟩:=h;by_cases k6:k=6
 .subst k6;rw[if_neg (by decide),if_neg (by decide),if_neg (by decide),if_pos rfl]at hk;simp only[Bool.and_eq_true,decide_eq_true_eq]at hk;exact stsR_flat _ 1 hk.2
 .have:body=[]:=List.eq_nil_of_length_eq_zero (by rcases hb with h|h<;>omega);subst this;show St.deeps [] 1=none;unfold St.deeps;rfl
theorem desR_flat:∀ {l:List De},desR isName l=true->deDeep l=none
 | [],_=>rfl
 |d::r,h=>by
  have h2:deR isName d=true/\desR isName r=true:=by
   unfold desR at h ⊢
   simpa using h
  rw[deDeep,deR_flat h2.1]
  exact desR_flat h2.2
section
variable {T:List Wd}
theorem dew_at:∀j:Fin 7,1<=j.val->((List.range 7).find? fun k=>decide (k≠0)&&decide (deW.getD j.val noB=deW.getD k noB)).getD 0=j.val:=by decide +kernel
theorem de_kw{V:List Ky}(h1:1<=k)(h6:k<=6)(hA:AtT T i (tkK (deW.getD k noB)::V)):deAt T i=k:=by
 unfold deAt;have e:(fun k'=>decide (k'≠0)&&isT T i (deW.getD k' noB))=fun k'=>decide (k'≠0)&&decide (deW.getD k noB=deW.getD k' noB):=funext fun k'=>by rw[kw_isT hA]
 rw[e];exact dew_at ⟨k,by omega⟩ h1
theorem mkDe_can(k:Int)(p:Int×Int)(s:ByteArray)(n:Int)(b:List St):(mkDe k p s n b).can=⟨k,0,0,s,n,St.cans b⟩:=rfl
theorem parse_de{d:De}{V:List Ky}(h:deR isName d=true)(hA:AtT T i (tkDe d++V)):∃d',pD T i=some (.ok (d',i+(tkDe d).length))/\d'.can=d.can:=by
 obtain⟨k,l,c,s,n,body⟩:=d;unfold deR at h;simp only[Bool.and_eq_true,Bool.or_eq_true,decide_eq_true_eq]at h;obtain⟨hs,hb,hk⟩:=h;have hbn:k≠6->body=[]:=fun h6=>List.eq_nil_of_length_eq_zero (by rcases hb with h|h<;>omega);obtain⟨P,hP⟩:∃P,plOf T i=P:=⟨_,z⟩;unfold tkDe at hA ⊢;dsimp only at hA ⊢;unfold pD;rw[hP];by_cases k1:k=1
 .subst k1;rw[if_pos rfl]at hA ⊢;simp only[List.cons_append,List.append_assoc,List.nil_append]at hA;have hd:=de_kw (k:=1) (by decide) (by decide) hA;obtain⟨-,-,-,hA⟩:=kw_at hA;obtain⟨n1,hA⟩:=name_at hA;obtain⟨n2,hA⟩:=want_at hA;have hbz:=hbn (by decide);unfold tkNum at hA ⊢;rw[hd,if_neg (by decide),n1,andT_ok,if_pos rfl,n2,andT_ok];by_cases hn:n<0
  .rw[if_pos hn]at hA ⊢;simp only[List.cons_append,List.nil_append]at hA;have n3:isT T (i+1+1+1) sMinus=true:=by rw[sg_isT hA];exact decide_eq_true z
   obtain⟨-,hA⟩:=want_at hA;obtain⟨n4,hA⟩:=num_at hA;obtain⟨n5,hA⟩:=want_at hA;rw[n3,if_pos rfl,n4,andT_ok,n5,andT_ok];refine⟨_,congrArg some (congrArg Except.ok (Prod.ext z ?_)),?_⟩
   .simp
   .rw[mkDe_can,hbz,Int.neg_neg];rfl
  .rw[if_neg hn]at hA ⊢;simp only[List.cons_append,List.nil_append]at hA;have n3:isT T (i+1+1+1) sMinus=false:=by obtain⟨g1,g2,-⟩:=hA.cons;rw[isT_of g1 g2];rfl
   obtain⟨n4,hA⟩:=num_at hA;obtain⟨n5,hA⟩:=want_at hA;rw[n3,if_neg (by decide),n4,andT_ok,n5,andT_ok];refine⟨_,congrArg some (congrArg Except.ok (Prod.ext z ?_)),?_⟩
   .simp
   .rw[mkDe_can,hbz];rfl
 rw[if_neg k1]at hA hk ⊢;by_cases k25:k=2∨k=5
 .rw[if_pos k25]at hA ⊢;have hbz:=hbn (by omega);obtain⟨q,rfl⟩:∃q:Nat,k=q:=⟨k.toNat,by omega⟩;rw[Int.toNat_natCast]at hA ⊢;simp only[List.cons_append,List.nil_append]at hA;have hd:=de_kw (k:=q) (by omega) (by omega) hA;obtain⟨-,-,-,hA⟩:=kw_at hA;obtain⟨n1,hA⟩:=name_at hA;obtain⟨n4,hA⟩:=num_at hA;obtain⟨n5,hA⟩:=want_at hA;rw[hd,if_neg (by omega),n1,andT_ok,if_neg (by omega),if_pos (by omega),n4,andT_ok,n5,andT_ok];refine⟨_,congrArg some (congrArg Except.ok (Prod.ext z ?_)),?_⟩
  .simp
  .rw[mkDe_can,hbz];rfl
 rw[if_neg k25]at hA hk ⊢;by_cases k34:k=3∨k=4
 .rw[if_pos k34]at hA hk ⊢;have hn:n=0:=by simpa using hk
  have hbz:=hbn (by omega);obtain⟨q,rfl⟩:∃q:Nat,k=q:=⟨k.toNat,by omega⟩;rw[Int.toNat_natCast]at hA ⊢;simp only[List.cons_append,List.nil_append]at hA;have hd:=de_kw (k:=q) (by omega) (by omega) hA;obtain⟨-,-,-,hA⟩:=kw_at hA;obtain⟨n1,hA⟩:=name_at hA;obtain⟨n5,hA⟩:=want_at hA;rw[hd,if_neg (by omega),n1,andT_ok,if_neg (by omega),if_neg (by omega),if_neg (by omega),n5,andT_ok];refine⟨_,congrArg some (congrArg Except.ok (Prod.ext z ?_)),?_⟩
  .simp
  .rw[mkDe_can,hbz,hn];rfl
 rw[if_neg k34]at hA hk ⊢;split at hk
 .rename_i k6;subst k6;simp only[Bool.and_eq_true,decide_eq_true_eq]at hk;obtain⟨hn,hbd⟩:=hk;simp only[List.cons_append,List.append_assoc,List.nil_append]at hA;have hd:=de_kw (k:=6) (by decide) (by decide) hA;obtain⟨-,-,-,hA⟩:=kw_at hA;obtain⟨n1,hA⟩:=name_at hA;obtain⟨l',n2,n3⟩:=parse_blk body 1 _ V hbd hA;rw[hd,if_neg (by decide),n1,andT_ok,if_neg (by decide),if_neg (by decide),if_pos rfl,show pBlk T (i+1+1)=xB T (i+1+1) from rfl,n2,andT_ok];refine⟨_,congrArg some (congrArg Except.ok (Prod.ext z ?_)),?_⟩
  .simp;omega
  .rw[mkDe_can,n3,hn];rfl
 .cases hk
theorem parse_des:∀ (l:List De) (i f:Nat) (acc:List De),desR isName l=true->AtT T i (l.flatMap tkDe)->i+(l.flatMap tkDe).length=T.length->l.length<f->
  ∃l',pDs T f acc i=some (.ok (acc++l',T.length))/\l'.map De.can=l.map De.can
 | [],i,f,acc,_,_,hi,hf=>by
  obtain⟨g,rfl⟩:∃g,f=g+1:=⟨f-1,by omega⟩
  have:i=T.length:=by simpa using hi
  refine⟨[],?_,z⟩
  rw[pDs,if_neg (by omega),this,List.append_nil]
 |d::r,i,f,acc,h,hA,hi,hf=>by
  obtain⟨g,rfl⟩:∃g,f=g+1:=⟨f-1,by omega⟩
  have h2:deR isName d=true/\desR isName r=true:=by
   unfold desR at h ⊢
   simpa using h
  rw[List.flatMap_cons]at hA hi
  rw[List.length_append]at hi
  have hlt:i<T.length:=by
   have:=(hA 0 (by
    have:tkDe d≠[]:=by
     unfold tkDe
     repeat' split
     all_goals simp
    have:=List.length_pos_iff.2 this
    rw[List.length_append]
    omega)).1
   omega
  obtain⟨d',n1,n2⟩:=parse_de h2.1 hA
  obtain⟨l',n3,n4⟩:=parse_des r (i+(tkDe d).length) g (acc++[d']) h2.2 hA.right (by omega) (by simpa using hf)
  refine⟨d'::l',?_,?_⟩
  .rw[pDs,if_pos hlt,n1,andT_ok,n3]
   simp
  .simp[n2,n4]
end
theorem tk_ge:∀l:List De,l.length<=(l.flatMap tkDe).length
 | []=>Nat.le_refl _
 |d::r=>by
  have:tkDe d≠[]:=by
   unfold tkDe
   repeat' split
   all_goals simp
  have:=List.length_pos_iff.2 this
  have:=tk_ge r
  rw[List.flatMap_cons,List.length_append,List.length_cons]
  omega
theorem text_back{l:List De}(hR:desR isName l=true)(hlen:(prT l).length<=65536):∃l',parseR (bS (prT l))=(l',(0,0),0)/\l'.map De.can=l.map De.can/\desR isName l'=true/\prT l'=prT l:=by
 have hLx:Lx (bS (prT l)).data.toList (l.flatMap tkDe):=lx_prog hR;obtain⟨m,h1,h2⟩:=hLx.lexR (by show (prT l).toArray.size<=65536;simpa using hlen);have hA:=at_map h2;have hl:(l.flatMap tkDe).length=m.length:=by rw[<-h2,List.length_map]
 obtain⟨l',h3,h4⟩:=parse_des (T:=m) l 0 (m.length+1) [] hR hA (by omega) (by have:=tk_ge l;omega);have h5:desR isName l'=true:=by rw[<-desR_can,h4,desR_can];exact hR
 refine⟨l',?_,h4,h5,by rw[<-prT_can,h4,prT_can]⟩;unfold parseR;rw[h1];dsimp only;rw[if_pos rfl,h3,List.nil_append];dsimp only;rw[desR_flat h5]
theorem dig_le:∀ (k u:Nat),u<10^ (k+1)->Lib.nDigits u<=k+1
 |0,u,h=>by
  rw[Lib.nDigits_small (by simpa using h)]
  exact Nat.le_refl _
 |k+1,u,h=>by
  by_cases h1:u<10
  .rw[Lib.nDigits_small h1]
   omega
  .rw[Lib.nDigits_big h1]
   have:=dig_le k (u/10) (by rw[Nat.pow_succ]at h;omega)
   omega
theorem digits_10(u:Nat)(h:u<=2147483647):Lib.nDigits u<=10:=dig_le 9 u (by omega)
theorem itoa_11(n:Int)(h0: -2147483647<=n)(h1:n<=2147483647):(Lib.itoa n).length<=11/\(0<=n->(Lib.itoa n).length<=10):=by
 by_cases hneg:n<0
 .obtain⟨u,rfl⟩:∃u:Nat,n= -(u:Int):=⟨n.natAbs,by omega⟩;rw[Lib.itoa_neg u (by omega),List.length_cons,Lib.decDigits_length];have:=digits_10 u (by omega);exact⟨by omega,fun h=>by omega⟩
 .obtain⟨u,rfl⟩:∃u:Nat,n=u:=⟨n.toNat,by omega⟩;rw[Lib.itoa_nonneg,Lib.decDigits_length];have:=digits_10 u (by omega);exact⟨by omega,fun h=>by omega⟩
theorem op_2(o:Nat):(opS.getD o noB).data.toList.length<=2:=by
 rcases Nat.lt_or_ge o 12 with h|h
 .have:∀k<12,(opS.getD k noB).data.toList.length<=2:=by decide
  exact this o h
 .rw[List.getD_eq_getElem?_getD,List.getElem?_eq_none (by simpa [opS]using h)];decide
theorem stw_6(k:Nat):(stW.getD k noB).data.toList.length<=6:=by
 rcases Nat.lt_or_ge k 16 with h|h
 .have:∀k<16,(stW.getD k noB).data.toList.length<=6:=by decide
  exact this k h
 .rw[List.getD_eq_getElem?_getD,List.getElem?_eq_none (by simpa [stW]using h)];decide
theorem par_2(b n:Nat)(t:List UInt8):(par b n t).length<=t.length+2:=by
 unfold par;split
 .simp
 .omega
theorem sz_l(s:ByteArray):s.data.toList.length=s.size:=Array.length_toList
section
variable {T:List Wd}
theorem pName_16(hT:WdOk T)(h:pName T i=some (.ok (s,j))):s.data.toList.length<=16/\j=i+1:=⟨by rw[sz_l];exact name_16 (pName_may hT h),(pName_ok T h).1⟩
theorem pE_pr(hT:WdOk T):∀f,
  (∀n i x j,pE T f n i=some (.ok (x,j))->(exT x).length+2+21*i<=21*j)/\(∀n m l i i0 x j,(exT l).length+2+21*i0<=21*i->pL T f n m l i=some (.ok (x,j))->(exT x).length+2+21*i0<=21*j)/\
  (∀i x j,pU T f i=some (.ok (x,j))->(exT x).length+2+21*i<=21*j)/\(∀i x j,pP T f i=some (.ok (x,j))->(exT x).length+2+21*i<=21*j):=by
 intro f;induction f with
 |zero=>exact⟨fun _ _ _ _ h=>by simp[pE]at h,fun _ _ _ _ _ _ _ _ h=>by simp[pL]at h,fun _ _ _ h=>by simp[pU]at h,fun _ _ _ h=>by simp[pP]at h⟩
 |succ f ih=>
  obtain⟨hE,hL,hU,hP⟩:=ih;refine⟨fun n i x j h=>?_,fun n m l i i0 x j hl h=>?_,fun i x j h=>?_,fun i x j h=>?_⟩
  .rw[pE]at h;obtain⟨l,k,h1,h2⟩:=andT_inv h;exact hL _ _ _ _ i _ _ (hU _ _ _ h1) h2
  .rw[pL]at h;split at h
   .cases h;exact hl
   .obtain⟨y,k,h1,h2⟩:=andT_inv h;have h3:=hE _ _ _ _ h1;refine hL _ _ _ _ i0 _ _ ?_ h2;have hp:=par_2 l.bind (if rankOf (opAt T i)=3 then 4 else rankOf (opAt T i)) (exT l);have hq:=par_2 y.bind (rankOf (opAt T i)+1) (exT y);have ho:=op_2 (opAt T i);simp only[exBin,exT,List.length_append,List.length_cons,Int.toNat_natCast];omega
  .rw[pU]at h;split at h
   .obtain⟨y,k,h1,h2⟩:=andT_inv h;have h3:=hU _ _ _ h1;cases h2;have hp:=par_2 y.bind 6 (exT y);simp only[exNeg,exT,if_neg (show ¬ (4:Int)=3 by decide),List.length_cons];omega
   split at h
   .obtain⟨y,k,h1,h2⟩:=andT_inv h;have h3:=hU _ _ _ h1;cases h2;have hp:=par_2 y.bind 6 (exT y);simp only[exNot,exT,if_neg (show ¬ (5:Int)=3 by decide),List.length_cons];omega
   .exact hP _ _ _ h
  .rw[pP]at h;split at h
   .obtain⟨y,k,h1,h2⟩:=andT_inv h;have h3:=hE _ _ _ _ h1;obtain⟨_,m,h4,h5⟩:=andT_inv h2;have h6:=want_ok T h4;cases h5;omega
   split at h
   .cases h;have h1:=(itoa_11 (T.getD i default).num (by have:=(hT i).2;omega) (hT i).2.2).2 (hT i).2.1;simp only[exNum,exT,if_true];omega
   .obtain⟨s,k,h1,h2⟩:=andT_inv h;have hs:=pName_16 hT h1;split at h2
    .obtain⟨y,m,h3,h4⟩:=andT_inv h2;have h5:=hE _ _ _ _ h3;obtain⟨_,q,h6,h7⟩:=andT_inv h4;have h8:=want_ok T h6;cases h7;simp only[exCell,exT,if_true,List.length_append,List.length_cons,List.length_nil];omega
    .cases h2;simp only[exName,exT,if_neg (show ¬ (2:Int)=1 by decide)];omega
theorem pX_pr(hT:WdOk T){x:Ex}(h:pX T i=some (.ok (x,j))):(exT x).length+2+21*i<=21*j:=(pE_pr hT _).1 _ _ _ _ h
def Prt(s:St)(i j:Nat):Prop:=∀d n,stR isName s d=true->n<=d->(stT s n).length+n+1+21*i<=21*j
def PrtL(l:List St)(i j:Nat):Prop:=∀d n,stsR isName l d=true->n<=d->(blT l n).length+21*i<=21*j
theorem Prt.dpt{s:St}(h:stR isName s d=true):d<=24:=by obtain⟨k,l,c,s,t,x,y,b,e,id',sl,ot,lo⟩:=s;unfold stR at h;simp only[Bool.and_eq_true,decide_eq_true_eq]at h;exact h.2.1
theorem Prt.lists{k:Int}{p:Int×Int}{x y:Ex}{b e:List St}(h:stR isName (mkSt k p s t x y b e) d=true):stsR isName b (d+1)=true/\stsR isName e (d+1)=true:=by unfold mkSt stR at h;simp only[Bool.and_eq_true,decide_eq_true_eq]at h;exact h.2.2.2.2.2.2.2.2
theorem tabs_ln(n:Nat):(tabs n).length=n:=by simp[tabs]
theorem stT_gen(hk:k≠1/\k≠2/\k≠3/\k≠4/\k≠5/\k≠8/\k≠12/\k≠11/\k≠14/\k≠15)(p:Int×Int)(s t:ByteArray)(x y:Ex)(b e:List St)(n:Nat):stT (mkSt k p s t x y b e) n=(stW.getD k noB).data.toList++([32]++(s.data.toList++[59])):=by unfold mkSt stT;rw[if_neg (by omega),if_neg (by omega),if_neg (by omega),if_neg (by omega),if_neg (by omega),if_neg (by omega),if_neg (by omega),if_neg (by omega),if_neg (by omega),Int.toNat_natCast]
theorem pPlain_pr(hT:WdOk T){p:Int×Int}{s:St}(hk:k≠2/\k≠3/\k≠4/\k≠5)(h:pPlain T p k (i+1)=some (.ok (s,j))):Prt s i j:=by
 intro d n hd hn;have h24:=Prt.dpt hd;unfold pPlain at h;split at h
 .obtain⟨_,_,h1,h2⟩:=andT_inv h;have:=want_ok T h1;cases h2;have e:stT (mkSt 14 p noB noB zEx zEx [] []) n=[106,111,105,110,59]:=by simp[mkSt,stT]
  rw[e];simp only[List.length_cons,List.length_nil];omega
 split at h
 .obtain⟨x,_,h1,h2⟩:=andT_inv h;obtain⟨_,_,h3,h4⟩:=andT_inv h2;have:=want_ok T h3;have:=pX_pr hT h1;cases h4;have e:stT (mkSt 15 p noB noB x zEx [] []) n=[112,114,105,110,116,32]++(exT x++[59]):=by simp[mkSt,stT]
  rw[e];simp only[List.length_append,List.length_cons,List.length_nil];omega
 obtain⟨s,j1,h1,h2⟩:=andT_inv h;have hs:=pName_16 hT h1;split at h2
 .obtain⟨_,m,h4,h5⟩:=andT_inv h2;have h6:=want_ok T h4;obtain⟨x,_,h7,h8⟩:=andT_inv h5;obtain⟨_,_,h10,h9⟩:=andT_inv h8;have:=want_ok T h10;have:=pX_pr hT h7;cases h9;have e:stT (mkSt 1 p s noB x zEx [] []) n=[108,101,116,32]++(s.data.toList++([32,61,32]++(exT x++[59]))):=by simp[mkSt,stT]
  rw[e];simp only[List.length_append,List.length_cons,List.length_nil];omega
 split at h2
 .rename_i hk8;obtain⟨t,m,h4,h5⟩:=andT_inv h2;have ht:=pName_16 hT h4;obtain⟨_,_,h10,h9⟩:=andT_inv h5;have:=want_ok T h10;cases h9;have hw:=stw_6 k;have e:stT (mkSt k p s t zEx zEx [] []) n=(stW.getD k noB).data.toList++([32]++(s.data.toList++([32]++(t.data.toList++[59])))):=by unfold mkSt stT;rw[if_neg (by omega),if_neg (by omega),if_neg (by omega),if_neg (by omega),if_neg (by omega),if_pos (by omega),Int.toNat_natCast]
  rw[e];simp only[List.length_append,List.length_cons,List.length_nil];omega
 split at h2
 .obtain⟨x,m,h4,h5⟩:=andT_inv h2;obtain⟨_,_,h10,h9⟩:=andT_inv h5;have:=want_ok T h10;have:=pX_pr hT h4;cases h9;have e:stT (mkSt 11 p s noB x zEx [] []) n=[115,101,110,100,32]++(s.data.toList++([32]++(exT x++[59]))):=by simp[mkSt,stT]
  rw[e];simp only[List.length_append,List.length_cons,List.length_nil];omega
 .obtain⟨_,_,h10,h9⟩:=andT_inv h2;have:=want_ok T h10;cases h9;have hw:=stw_6 k;rw[stT_gen (by omega)];simp only[List.length_append,List.length_cons,List.length_nil];omega
theorem pAssign_pr(hT:WdOk T){p:Int×Int}{s:St}(h:pAssign T p i=some (.ok (s,j))):Prt s i j:=by
 intro d n hd hn;have h24:=Prt.dpt hd;unfold pAssign at h;obtain⟨s,j1,h1,h2⟩:=andT_inv h;have hs:=pName_16 hT h1;split at h2
 .obtain⟨y,m,h4,h5⟩:=andT_inv h2;have h6:=pX_pr hT h4;obtain⟨_,_,h7,h8⟩:=andT_inv h5;have h9:=want_ok T h7;obtain⟨_,q,h10,h11⟩:=andT_inv h8;have h12:=want_ok T h10;obtain⟨x,r,h13,h14⟩:=andT_inv h11;have h15:=pX_pr hT h13;obtain⟨_,_,h17,h16⟩:=andT_inv h14;have:=want_ok T h17;cases h16;have e:stT (mkSt 3 p s noB x y [] []) n=s.data.toList++([91]++(exT y++([93,32,61,32]++(exT x++[59])))):=by simp[mkSt,stT]
  rw[e];simp only[List.length_append,List.length_cons,List.length_nil];omega
 .obtain⟨_,q,h10,h11⟩:=andT_inv h2;have h12:=want_ok T h10;obtain⟨x,r,h13,h14⟩:=andT_inv h11;have h15:=pX_pr hT h13;obtain⟨_,_,h17,h16⟩:=andT_inv h14;have:=want_ok T h17;cases h16;have e:stT (mkSt 2 p s noB x zEx [] []) n=s.data.toList++([32,61,32]++(exT x++[59])):=by simp[mkSt,stT]
  rw[e];simp only[List.length_append,List.length_cons,List.length_nil];omega
theorem blT_ap:∀ (l:List St) (s:St) (n:Nat),blT (l++[s]) n=blT l n++(tabs n++(stT s n++[10]))
 | [],s,n=>by simp[blT]
 |x::r,s,n=>by simp[blT,blT_ap r s n]
theorem stsR_ap:∀ (l:List St) (s:St) (d:Nat),stsR isName (l++[s]) d=true->stsR isName l d=true/\stR isName s d=true
 | [],s,d,h=>by
  simp only[List.nil_append,stsR,Bool.and_eq_true]at h
  exact⟨by simp[stsR],h.1⟩
 |x::r,s,d,h=>by
  simp only[List.cons_append,stsR,Bool.and_eq_true]at h
  obtain⟨h1,h2⟩:=stsR_ap r s d h.2
  exact⟨by simp[stsR,h.1,h1],h2⟩
theorem pS_pr(hT:WdOk T):∀f,
  (∀i l j,pB T f i=some (.ok (l,j))->∀d n,stsR isName l d=true->n<=d->(blT l n).length+42+21*i<=21*j)/\(∀acc i i0 l j,PrtL acc i0 i->pSs T f acc i=some (.ok (l,j))->∀d n,stsR isName l d=true->n<=d->(blT l n).length+21+21*i0<=21*j)/\
  (∀i s j,pS T f i=some (.ok (s,j))->Prt s i j):=by
 intro f;induction f with
 |zero=>exact⟨fun _ _ _ h=>by simp[pB]at h,fun _ _ _ _ _ _ h=>by simp[pSs]at h,fun _ _ _ h=>by simp[pS]at h⟩
 |succ f ih=>
  obtain⟨hB,hSs,hS⟩:=ih;refine⟨fun i l j h d n hd hn=>?_,fun acc i i0 l j ha h d n hd hn=>?_,fun i s j h=>?_⟩
  .rw[pB]at h;obtain⟨_,k,h1,h2⟩:=andT_inv h;have h3:=want_ok T h1;have h4:=hSs [] k (i+1) l j (fun d n _ _=>by simp only[blT,List.length_nil];omega) h2 d n hd hn;omega
  .rw[pSs]at h;split at h
   .cases h;have:=ha d n hd hn;omega
   .obtain⟨s,k,h1,h2⟩:=andT_inv h;have h3:=hS _ _ _ h1;refine hSs _ _ i0 _ _ (fun d n hd hn=>?_) h2 d n hd hn;obtain⟨g1,g2⟩:=stsR_ap acc s d hd;have g3:=ha d n g1 hn;have g4:=h3 d n g2 hn;rw[blT_ap];simp only[List.length_append,List.length_cons,List.length_nil,tabs_ln];omega
  .rw[pS]at h;split at h
   .exact pAssign_pr hT h
   split at h
   .cases h
   rename_i hk1 hk2;split at h
   .obtain⟨x,k,h1,h2⟩:=andT_inv h;obtain⟨b,m,h3,h4⟩:=andT_inv h2;have h5:=pX_pr hT h1;cases h4;intro d n hd hn;have h24:=Prt.dpt hd;have h6:=hB _ _ _ h3 (d+1) (n+1) (Prt.lists hd).1 (by omega);have e:stT (mkSt 5 (plOf T i) noB noB x zEx b []) n=[119,104,105,108,101,32]++(exT x++([32]++([123,10]++(blT b (n+1)++(tabs n++[125]))))):=by simp[mkSt,stT]
    rw[e];simp only[List.length_append,List.length_cons,List.length_nil,tabs_ln];omega
   split at h
   .obtain⟨x,k,h1,h2⟩:=andT_inv h;obtain⟨b,m,h3,h4⟩:=andT_inv h2;have h5:=pX_pr hT h1;split at h4
    .obtain⟨c,q,h7,h8⟩:=andT_inv h4;cases h8;intro d n hd hn;have h24:=Prt.dpt hd;have h6:=hB _ _ _ h3 (d+1) (n+1) (Prt.lists hd).1 (by omega);have h9:=hB _ _ _ h7 (d+1) (n+1) (Prt.lists hd).2 (by omega);have e:(stT (mkSt 4 (plOf T i) noB noB x zEx b c) n).length<=(exT x).length+(blT b (n+1)).length+(blT c (n+1)).length+2*n+17:=by
      unfold mkSt stT;rw[if_neg (by decide),if_neg (by decide),if_neg (by decide),if_pos rfl];split
      .simp only[List.length_append,List.length_cons,List.length_nil,tabs_ln];omega
      .simp only[List.length_append,List.length_cons,List.length_nil,tabs_ln];omega
     omega
    .cases h4;intro d n hd hn;have h24:=Prt.dpt hd;have h6:=hB _ _ _ h3 (d+1) (n+1) (Prt.lists hd).1 (by omega);have e:(stT (mkSt 4 (plOf T i) noB noB x zEx b []) n).length<=(exT x).length+(blT b (n+1)).length+n+7:=by unfold mkSt stT;rw[if_neg (by decide),if_neg (by decide),if_neg (by decide),if_pos rfl,if_pos rfl];simp only[List.length_append,List.length_cons,List.length_nil,tabs_ln];omega
     omega
   .rename_i hk5 hk4;have h15:=stOf_k (T.getD i default).text;exact pPlain_pr hT ⟨h15.2.1,h15.2.2,hk4,hk5⟩ h
theorem pNumb_1{n:Int}(h:pNumb T i=some (.ok (n,j))):j=i+1:=by
 unfold pNumb at h;split at h
 .cases h;rfl
 .cases h
theorem pD_pr(hT:WdOk T){d:De}(h:pD T i=some (.ok (d,j)))(hR:deR isName d=true):(deT d).length+21*i<=21*j:=by
 unfold pD at h;split at h
 .cases h
 rename_i hd0;obtain⟨s,j1,h1,h2⟩:=andT_inv h;have hs:=pName_16 hT h1;have hsz:s.size<=16:=by rw[<-sz_l];exact hs.1
 split at h2
 .obtain⟨_,m,h3,h5⟩:=andT_inv h2;have:=want_ok T h3;split at h5
  .obtain⟨n,_,h6,h7⟩:=andT_inv h5;obtain⟨_,_,h9,h8⟩:=andT_inv h7;have:=want_ok T h9;have:=pNumb_1 h6;have hn:=pNumb_may hT h6;have h11:=(itoa_11 (-n) (by omega) (by omega)).1;cases h8;simp only[deT,mkDe,if_true,List.length_append,List.length_cons,List.length_nil];omega
  .obtain⟨n,_,h6,h7⟩:=andT_inv h5;obtain⟨_,_,h9,h8⟩:=andT_inv h7;have:=want_ok T h9;have:=pNumb_1 h6;have hn:=pNumb_may hT h6;have h11:=(itoa_11 n (by omega) (by omega)).1;cases h8;simp only[deT,mkDe,if_true,List.length_append,List.length_cons,List.length_nil];omega
 rename_i hk1;split at h2
 .rename_i hk2;obtain⟨n,_,h6,h7⟩:=andT_inv h2;obtain⟨_,_,h9,h8⟩:=andT_inv h7;have:=want_ok T h9;have:=pNumb_1 h6;have hn:=pNumb_may hT h6;have h11:=(itoa_11 n (by omega) (by omega)).1;cases h8;rcases hk2 with e|e
  .simp only[deT,mkDe,e];simp;omega
  .simp only[deT,mkDe,e];simp;omega
 rename_i hk2;split at h2
 .obtain⟨b,q,h5,h6⟩:=andT_inv h2;cases h6;have hb:stsR isName b 1=true:=by unfold deR mkDe at hR;simp at hR;exact hR.2
  have h7:=(pS_pr hT _).1 _ _ _ h5 1 1 hb (Nat.le_refl _);have e:(deT (mkDe 6 (plOf T i) s 0 b)).length=s.data.toList.length+(blT b 1).length+12:=by simp[deT,mkDe,blockT,tabs];omega
  rw[e];omega
 .rename_i hk6;obtain⟨_,_,h9,h8⟩:=andT_inv h2;have:=want_ok T h9;cases h8;have hk7:deAt T i=3∨deAt T i=4:=by
   have hlt:deAt T i<7:=by
    unfold deAt;generalize he:(List.range 7).find? (fun k=>decide (k≠0)&&isT T i (deW.getD k noB))=F;rcases F with _|v
    .decide
    .have:=List.mem_of_find?_eq_some he;simpa using this
   omega
  rcases hk7 with e|e
  .simp only[deT,mkDe,e];simp;omega
  .simp only[deT,mkDe,e];simp;omega
theorem pDs_pr(hT:WdOk T):∀f acc i l j,(desR isName acc=true->(prT acc).length<=21*i)->pDs T f acc i=some (.ok (l,j))->(desR isName l=true->(prT l).length<=21*j)/\(i<=T.length->j<=T.length):=by
 intro f;induction f with
 |zero=>intro acc i l j _ h;simp[pDs]at h
 |succ f ih=>
  intro acc i l j ha h;rw[pDs]at h;split at h
  .rename_i hi;obtain⟨d,k,h1,h2⟩:=andT_inv h;have h4:=pD_adv T (by omega) h1;have h5:=ih _ _ _ _ (fun hR=>by
    unfold desR at hR;rw[List.all_append,Bool.and_eq_true]at hR;have g1:=ha hR.1;have g2:=pD_pr hT h1 (by simpa using hR.2);have e:prT (acc++[d])=prT acc++deT d:=by simp[prT]
    rw[e,List.length_append];omega) h2
   exact⟨h5.1,fun _=>h5.2 h4.2⟩
  .cases h;exact⟨ha,fun h=>h⟩
end
theorem lexR_le(s:ByteArray):(lexR s).1.length<=s.size:=by
 unfold lexR;split
 .exact Nat.zero_le _
 .exact lexA_len _ 0 [] (Nat.le_refl _) (Nat.le_refl _) (Nat.zero_le _)
theorem read_pr(s:ByteArray):(prT (parseR s).1).length<=21*s.size:=by
 have hT:=lexR_ok s;have hl:=lexR_le s;have hm:=read_may s;revert hm;unfold parseR;split
 .split
  .rename_i l j hp;split
   .intro _;simp[prT]
   .intro hm;have h:=pDs_pr hT _ _ _ _ _ (fun _=>by simp[prT]) hp;have h2:=h.2 (by omega);have h1:=h.1 hm;dsimp only;omega
  .intro _;simp[prT]
  .intro _;simp[prT]
 .intro _;simp[prT]
end Go.Proofs.YtgppcdfgdaggjaaGreatDoor
