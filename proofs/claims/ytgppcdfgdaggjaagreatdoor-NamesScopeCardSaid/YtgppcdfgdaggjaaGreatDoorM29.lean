/- Texts laid together. No condition but what each law says. -/
import Derived.Test.YtgppcdfgdaggjaaGreatDoorM27
set_option maxRecDepth 100000
namespace Go.Proofs.YtgppcdfgdaggjaaGreatDoor
open Go.ChangeShapes Go.WideShapes Go.ChangeAt Go.RowKit Go.Proofs.Tryz
variable {W:World}{v:Value}{a:Option Addr}
theorem xr:laidOutB prog=true:=by kernel_rfl
theorem zr{w:Addr}{c:List Value}(g:W.cells? 0 w 1=some c):∃j,c=[j]/\W.cell? (w.add 0)=some j:=by
 unfold World.cells? at g;split at g
 .simp only[List.range_succ,List.range_zero,List.nil_append,List.mapM_cons,List.mapM_nil,Option.bind_eq_bind,Option.bind_eq_some_iff,Option.pure_def,Option.some.injEq]at g;obtain⟨j,A,_,rfl,rfl⟩:=g;exact⟨j,z,A⟩
 .cases g
theorem wM{H:Type}{enc:TypeId×Value->H}{t e:TypeId}{k:IntKind}(D:prog.underlying t=some (.slice e))(U:prog.underlying e=some (.int k))(Q:prog.cellsOf e=1){p:List MemPlace}{d:DataW H}
  (h:DataW.Trod enc prog W 0 (fun _=>true) true t v d p){len cap:Nat}(R:v= .slice a len cap):∀j,j<len->∃g C,∃x:Int,a=some ⟨g,C,none⟩/\W.cell? ⟨g,C+j,none⟩=some (.int k x)/\(Lit.int k x).wf=true:=by
 subst R;obtain⟨a3,h⟩:=h;rcases DataW.trod_slice D h with ⟨w,_⟩|⟨G,a2,a4,a1,a0,n,_,w,_,_,_,_,Z,J,_⟩
 .simp only[Value.cells]at w;simp at w;obtain⟨_,rfl,_⟩:=w;intro j hj;omega
 .simp only[Value.cells]at w;simp at w;obtain⟨rfl,rfl,rfl⟩:=w;rw[Q]at J;have M:∀i,i<len->∃x:Int,W.cell? ((G.add (i*1)).add 0)=some (.int k x)/\(Lit.int k x).wf=true:=by intro i F;have K:=J i F;rw[List.getElem?_eq_getElem (by omega)]at K;obtain⟨c,X,D⟩:=Option.bind_eq_some_iff.1 K;obtain⟨y0,rfl,A⟩:=zr X;obtain⟨x,N,_,E⟩:=DataW.trod_int U D;simp at N;exact⟨x,by rw[A,N],E⟩
  intro i F;obtain⟨b,C,V⟩:=G;obtain⟨_,Y,_⟩:=M 0 (by omega);have S:V=none:=by simpa [Addr.add]using World.cell?_spot Y
  subst S;obtain⟨x,A,E⟩:=M i F;simp only[Addr.add_mid]at A;rw[Nat.add_zero,Nat.mul_one]at A;exact⟨b,C,x,z,A,E⟩
end Go.Proofs.YtgppcdfgdaggjaaGreatDoor
