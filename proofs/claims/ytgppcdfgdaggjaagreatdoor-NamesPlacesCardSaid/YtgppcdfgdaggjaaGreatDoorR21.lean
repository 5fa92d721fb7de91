/- Texts laid together. No condition but what each law says. -/
import Derived.Test.YtgppcdfgdaggjaaGreatDoorR11
import Derived.Lib.ItoaLen
namespace Go.Proofs.YtgppcdfgdaggjaaGreatDoor
variable {d i:Nat}
def exR(nm:ByteArray->Bool):Ex->Nat->Bool
 | .mk k n s _ _ o args,d=>decide (1<=d)&& ((decide (k=1)||decide (n=0))&& ((decide (k=6)||decide (o=0))&& ((if k=2∨k=3 then nm s else decide (s=noB))&&match args with
  | []=> (decide (k=1)&& (decide (0<=n)&&decide (n<=2147483647)))||decide (k=2)
  | [x]=> (decide (k=3)|| (decide (k=4)||decide (k=5)))&&exR nm x (d-1)
  | [x,y]=> (decide (k=6)&& (decide (1<=o)&&decide (o<=11)))&& (exR nm x (d-1)&&exR nm y (d-1))
  |_=>false)))
def nName(k:Int):Bool:=decide (k≠4)&& (decide (k≠5)&&decide (k<14))
def nWith(k:Int):Bool:=decide (k=8)||decide (k=12)
def nExpr(k:Int):Bool:=decide (k<=5)|| (decide (k=11)||decide (k=15))
def exZ:Ex->Bool
 | .mk k n s _ _ o args=>decide (k=0)&& (decide (n=0)&& (decide (s=noB)&& (decide (o=0)&&decide (args.length=0))))
mutual
def stR (nm:ByteArray->Bool):St->Nat->Bool
 | .mk k _ _ s t x y body els _ _ _ _,d=> (decide (1<=k)&&decide (k<=15))&& (decide (d<=24)&& ((if nName k=true then nm s else decide (s=noB))&& ((if nWith k=true then nm t else decide (t=noB))&&
  ((if k=3 then exR nm y 24 else exZ y)&& ((if nExpr k=true then exR nm x 24 else exZ x)&& (((decide (k=4)||decide (k=5))||decide (body.length=0))&& ((decide (k=4)||decide (els.length=0))&& (stsR nm body (d+1)&&stsR nm els (d+1)))))))))
def stsR (nm:ByteArray->Bool):List St->Nat->Bool
 | [],_=>true
 |s::r,d=>stR nm s d&&stsR nm r d
end
def deR(nm:ByteArray->Bool)(d:De):Bool:=nm d.name&& ((decide (d.kind=6)||decide (d.body.length=0))&&
 (if d.kind=1 then decide (-2147483647<=d.num)&&decide (d.num<=2147483647)
  else if d.kind=2∨d.kind=5 then decide (0<=d.num)&&decide (d.num<=2147483647)
  else if d.kind=3∨d.kind=4 then decide (d.num=0)
  else if d.kind=6 then decide (d.num=0)&&stsR nm d.body 1
  else false))
def desR(nm:ByteArray->Bool)(l:List De):Bool:=l.all (deR nm)
def arity(k:Int):Nat:=if k=1∨k=2 then 0 else if k=6 then 2 else 1
def kindOk(k n o:Int):Bool:=if k=1 then decide (0<=n)&&decide (n<=2147483647) else if k=6 then decide (1<=o)&&decide (o<=11) else decide (2<=k)&&decide (k<=5)
def exsR(nm:ByteArray->Bool)(l:List Ex)(d:Nat):Bool:=l.all fun x=>exR nm x d
theorem exR_eq(nm:ByteArray->Bool)(k n:Int)(s:ByteArray)(sl:Int)(lo:Bool)(o:Int)(args:List Ex)(d:Nat):
  exR nm (.mk k n s sl lo o args) d=(decide (1<=d)&& ((decide (k=1)||decide (n=0))&& ((decide (k=6)||decide (o=0))&& ((if k=2∨k=3 then nm s else decide (s=noB))&& (kindOk k n o&& (decide (args.length=arity k)&&exsR nm args (d-1))))))):=by
 unfold exR kindOk arity exsR;congr 4;rcases args with _|⟨x,_|⟨y,_|⟨z,r⟩⟩⟩
 .by_cases w:k=1
  .subst w;simp
  .by_cases g:k=2
   .subst g;simp
   .by_cases j:k=6
    .subst j;simp
    .simp[w,g,j]
 .by_cases w:k=1
  .subst w;simp
  .by_cases j:k=6
   .subst j;simp
   .by_cases g:k=2
    .subst g;simp
    .by_cases C:k=3
     .subst C;simp
     .by_cases A:k=4
      .subst A;simp
      .by_cases D:k=5
       .subst D;simp
       .have:¬ (2<=k/\k<=5):=by omega
        have F:(decide (2<=k)&&decide (k<=5))=false:=by rw[<-Bool.not_eq_true,Bool.and_eq_true,decide_eq_true_eq,decide_eq_true_eq];exact this
        simp[w,g,C,A,D,j];intro E G;omega
 .by_cases w:k=1
  .subst w;simp
  .by_cases j:k=6
   .subst j;simp[Bool.and_assoc]
   .by_cases g:k=2
    .subst g;simp
    .simp[w,g,j]
 .by_cases w:k=1
  .subst w;simp
  .by_cases j:k=6
   .subst j;simp
   .by_cases g:k=2
    .subst g;simp
    .simp[w,g,j]
theorem exsR_drop{nm:ByteArray->Bool}{l:List Ex}(h:i<l.length):exsR nm (l.drop i) d=(exR nm (l.getD i zEx) d&&exsR nm (l.drop (i+1)) d):=by unfold exsR;rw[List.drop_eq_getElem_cons h,List.all_cons];simp[List.getD_eq_getElem?_getD,h]
mutual
def Ex.nb:Ex->Prop
 | .mk _ _ s _ _ _ args=>s.size<=9223372036854775807/\Ex.nbs args
def Ex.nbs:List Ex->Prop
 | []=>True
 |x::r=>x.nb/\Ex.nbs r
end
theorem Ex.nbs_at:∀ {l:List Ex},Ex.nbs l->∀ {j:Nat},j<l.length->(l.getD j zEx).nb
 | [],_,j,h=>by cases h
 |x::r,h1,j,h=>by
  unfold Ex.nbs at h1
  cases j with
  |zero=>exact h1.1
  |succ j=>simpa using Ex.nbs_at h1.2 (j:=j) (by simpa using h)
mutual
def St.nb:St->Prop
 | .mk _ _ _ s t x y b e _ _ _ _=>s.size<=9223372036854775807/\t.size<=9223372036854775807/\x.nb/\y.nb/\St.nbs b/\St.nbs e
def St.nbs:List St->Prop
 | []=>True
 |x::r=>x.nb/\St.nbs r
end
theorem St.nbs_at:∀ {l:List St},St.nbs l->∀ {j:Nat} {s:St},l[j]? =some s->s.nb
 | [],_,_,_,h=>by simp at h
 |s::r,h1,j,t,h=>by
  unfold St.nbs at h1
  cases j with
  |zero=>
   simp only[List.getElem?_cons_zero,Option.some.injEq]at h
   subst h
   exact h1.1
  |succ j=>exact St.nbs_at h1.2 (by simpa using h)
def De.nb(d:De):Prop:=d.name.size<=9223372036854775807/\St.nbs d.body
theorem stsR_drop{nm:ByteArray->Bool}{l:List St}{s:St}(h:l[i]? =some s):stsR nm (l.drop i) d=(stR nm s d&&stsR nm (l.drop (i+1)) d):=by obtain⟨g,rfl⟩:=List.getElem?_eq_some_iff.1 h;rw[List.drop_eq_getElem_cons g,stsR]
end Go.Proofs.YtgppcdfgdaggjaaGreatDoor
