/- NamesMany: its card holds, at every input. No condition. -/
import Derived.Test.YtgppcdfgdaggjaaGreatDoorN24
import Derived.Test.YtgppcdfgdaggjaaGreatDoorTie
import Derived.Test.YtgppcdfgdaggjaaGreatDoorCards
import Derived.SevenTiedAt
set_option maxRecDepth 100000
namespace Go.Proofs.YtgppcdfgdaggjaaGreatDoor
open Go.ChangeShapes Go.WideShapes Go.ChangeAt Go.RowKit Go.ChangeMaps Go.Proofs.Tryz
variable {W:World}{j:Nat}{v:Value}
theorem Dz{H:Type}{enc:TypeId×Value->H}{p:List MemPlace}{d:DataW H}(C:Value.okWide prog W .any j 51 v)(h:DataW.Trod enc prog W 0 (fun _=>true) true 51 v d p):
    ∃lo st:Int,v= .agg #[.int .i64 lo,.int .i64 st]:=by
  simp only[Value.okWide,underlying51]at C;obtain⟨cs,rfl,_⟩:=C;obtain⟨N,h⟩:=h;simp only[Value.cells]at h;obtain⟨l⟩:=cs;obtain⟨K,M,n,_,A,G,J⟩:=trod_struct2 underlying51 h;have F:prog.cellsOf 51=2:=by kernel_rfl
  have c3:prog.cellsOf 3=1:=by kernel_rfl
  rw[F]at A;match l,A with
  | [a,b],_=> have g:DataW.trod enc prog W 0 (fun _=>true) true n 3 (([a,b].drop 0).take (prog.cellsOf 3))=some K:=G;have w:DataW.trod enc prog W 0 (fun _=>true) true n 3 (([a,b].drop 1).take (prog.cellsOf 3))=some M:=J;rw[c3]at g w;obtain⟨x,D,_⟩:=DataW.trod_int underlying3 g;obtain⟨y,E,_⟩:=DataW.trod_int underlying3 w;simp at D E;exact⟨x,y,by rw[D,E]⟩
theorem Dw(os:Os)(a6:os.Started)(H:Type)(enc:TypeId×Value->H):
    ReturnsInHanded {} Tryz.checked os 5 .any (fun w args=> (Rows.namesManySpec.pre enc prog f5 [] false w args/\laidMetH prog fA w)/\sizedMet enc prog f5 (OpenSpec.ofChange Rows.namesManySpec) false w args)
      (Rows.namesManySpec.post enc prog f5 false true false false):=by
  refine returnsInHanded_of_change_and (C:=Tryz.checked) (X:=fun w _=>laidMetH prog fA w) (fun _ _ _ hh h=>h.of_heap hh) own a6 (by kernel_rfl) func5
    (ChangeSpec.witness_shaped (enc:=enc) (C:=Tryz.checked) (os:=os) (X:=fun w _=>laidMetH prog fA w) false (World.laidAll prog os fA) #[.int .i64 0,.slice none 0 0,.agg #[.int .i64 0,.int .i64 0]] 8 (World.laidAll_os _ _ _) (World.shaped_of_ZipB (by kernel_rfl) (by kernel_rfl)) (by kernel_rfl) (by kernel_rfl) (by kernel_rfl)
      (by rw[MakeChecks.laidMetH_plain _ _ _ (by kernel_rfl)];exact laidMet_laidAll _ (by kernel_rfl) (by kernel_rfl))) ?_
  intro W V args Z gs a7 N M _ _ hL _;have E:∀ (j:Nat) t v,f5.params[j]? =some t->args[j]? =some v->Value.okWide prog W .any V t v:=N;have a1:=M;obtain⟨p,q,K,hV,rfl,_,_⟩:=M;have J:DataW.TrodAll enc prog W 0 (fun _=>true) true f5.params.toList args.toList Z p:=K;rw[Tryz.params5]at J E;obtain⟨Q,b5,d0,a8,p0,q0,b4,rfl,rfl,h0,r0⟩:=trodAll_cons J;obtain⟨R,b6,d1,uE,p1,q1,rfl,rfl,rfl,A,r1⟩:=trodAll_cons r0;obtain⟨S,b7,d2,a9,p2,q2,rfl,rfl,rfl,D,r2⟩:=trodAll_cons r1;obtain⟨rfl,rfl,rfl⟩:=trodAll_nil r2;obtain rfl:args= #[Q,R,S]:=by cases args;simp_all
  obtain⟨rfl,rfl⟩:=trodVars_none hV;obtain⟨U,rfl,rfl,rfl,w0⟩:=open_int underlying3 (E 0 3 Q z z) h0;have a3:∀x∈p1,x.block<W.1.size:=by obtain⟨m,G⟩:=A;exact DataW.trod_lt m _ _ _ G
  have a4:∀x∈p2,x.block<W.1.size:=by obtain⟨m,G⟩:=D;exact DataW.trod_lt m _ _ _ G
  obtain⟨b1,a2,Y,rfl⟩:=okWide_slice underlying23 (E 1 23 R z z);have hn:=wM underlying23 underlying2 (by kernel_rfl) A z;obtain⟨lo,st,rfl⟩:=Dz (E 2 51 S z z) D;have hE:=rU hL;clear K N;refine(Dv U b1 a2 Y lo st W hE fun j hj=>by obtain⟨g,a5,x,A,D,_⟩:=hn j hj;exact⟨g,a5,x,A,D⟩).mono fun e W' ⟨he,F⟩=>?_
  subst he;exact⟨_,z,_,_,_,[],_,[],a1,trodAll_mk1 (shut_bool underlying4 _),(trodAll_cons_mk (shut_int underlying3 w0) (trodAll_cons_mk (Below.trod xr (by kernel_rfl) (of_decide_eq_true (by kernel_rfl)) A F a3) (trodAll_cons_mk (Below.trod xr (by kernel_rfl) (of_decide_eq_true (by kernel_rfl)) D F a4) trodAll_mk0))),z,F.frame _,fun h=>by cases h⟩
theorem Dx:Rows.NamesManySaid:=
  OpenClaim.holds_of_wide 5 f5 z z z z z z z ⟨z,z,z,z,z⟩ z z z z z (by kernel_rfl) func5 (by kernel_rfl)
    (of_decide_eq_true (by kernel_rfl)) (by unfold Func.isWrapper;first| (rw[aD (by decide +kernel)];kernel_rfl)| (rw[am (by decide +kernel)];exact⟨z,z⟩))
    (fun os g H enc _=>Dw os g H enc)
theorem namesMany_card_holds:Rows.NamesManyCardSaid:=
  Claim7.holds_tied_plain_at .later [] [.data,.data,.data,.sentinel,.sentinel,.data,.data] true (true,"07cccc501baab37feab103e83d956d2e49721dd285e105abfde573ab1a2e57be") true
    Dx (fun _ h=>by cases h) (by kernel_rfl) (fun _ h=>by cases h) namesMany_row_tie z ⟨z,z⟩ (by kernel_rfl) z
    (fun f fn A C=>by
      obtain rfl:f=5:=Option.some.inj ((show prog.funcNamed "warp/warplaw03.NamesMany"=some 5 by kernel_rfl).symm.trans A)|>.symm;obtain rfl:fn=f5:=(Option.some.inj (func5.symm.trans C)).symm;exact⟨by kernel_rfl,fun j t g=>by
        rw[Tryz.params5]at g;have D:t∈ [3,23,51]:=by simpa using Array.mem_of_getElem? g
        have w:(([3,23,51]:List TypeId).all fun u=>!prog.wantsStandIn u)=true:=by kernel_rfl
        exact(show prog.wantsStandIn t=false by simpa using List.all_eq_true.1 w t D)⟩)
    (by kernel_rfl)
end Go.Proofs.YtgppcdfgdaggjaaGreatDoor
