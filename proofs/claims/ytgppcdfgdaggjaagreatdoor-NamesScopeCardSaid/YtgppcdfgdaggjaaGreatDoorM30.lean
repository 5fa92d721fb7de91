/- NamesScope: its card holds, at every input. No condition. -/
import Derived.Test.YtgppcdfgdaggjaaGreatDoorM29
import Derived.Test.YtgppcdfgdaggjaaGreatDoorM26
import Derived.Test.YtgppcdfgdaggjaaGreatDoorTie
import Derived.Test.YtgppcdfgdaggjaaGreatDoorCards
import Derived.SevenTiedAt
set_option maxRecDepth 100000
namespace Go.Proofs.YtgppcdfgdaggjaaGreatDoor
open Go.ChangeShapes Go.WideShapes Go.ChangeAt Go.RowKit Go.ChangeMaps Go.Proofs.Tryz
theorem ix(os:Os)(a4:os.Started)(H:Type)(enc:TypeId×Value->H):
    ReturnsInHanded {} Tryz.checked os 6 .any (fun w args=> (Rows.namesScopeSpec.pre enc prog f6 [] false w args/\laidMetH prog fA w)/\sizedMet enc prog f6 (OpenSpec.ofChange Rows.namesScopeSpec) false w args)
      (Rows.namesScopeSpec.post enc prog f6 false true false false):=by
  refine returnsInHanded_of_change_and (C:=Tryz.checked) (X:=fun w _=>laidMetH prog fA w) (fun _ _ _ hh h=>h.of_heap hh) own a4 (by kernel_rfl) func6
    (ChangeSpec.witness_shaped (enc:=enc) (C:=Tryz.checked) (os:=os) (X:=fun w _=>laidMetH prog fA w) false (World.laidAll prog os fA) #[.slice none 0 0] 8 (World.laidAll_os _ _ _) (World.shaped_of_ZipB (by kernel_rfl) (by kernel_rfl)) (by kernel_rfl) (by kernel_rfl) (by kernel_rfl)
      (by rw[MakeChecks.laidMetH_plain _ _ _ (by kernel_rfl)];exact laidMet_laidAll _ (by kernel_rfl) (by kernel_rfl))) ?_
  intro W Q args S gs a5 M J _ _ Z _;have K:∀ (j:Nat) t v,f6.params[j]? =some t->args[j]? =some v->Value.okWide prog W .any Q t v:=M;have a0:=J;obtain⟨p,q,G,hV,rfl,_,_⟩:=J;have F:DataW.TrodAll enc prog W 0 (fun _=>true) true f6.params.toList args.toList S p:=G;rw[Tryz.params6]at F K;obtain⟨N,a8,d0,a6,p0,q0,a7,rfl,rfl,A,r0⟩:=trodAll_cons F;obtain⟨rfl,rfl,rfl⟩:=trodAll_nil r0;obtain rfl:args= #[N]:=by cases args;simp_all
  obtain⟨rfl,rfl⟩:=trodVars_none hV;have a2:∀x∈p0,x.block<W.1.size:=by obtain⟨m,hm⟩:=A;exact DataW.trod_lt m _ _ _ hm
  obtain⟨b0,a1,R,rfl⟩:=okWide_slice underlying52 (K 0 52 N z z);have hn:=wM underlying52 underlying5 (by kernel_rfl) A z;have Y:=rU Z;clear G M;refine(qB b0 a1 R W Y fun j hj=>by obtain⟨g,a3,x,U,V,E⟩:=hn j hj;simp only[Lit.wf,IntKind.min,IntKind.max,IntKind.signed,IntKind.bits]at E;simp at E;exact⟨g,a3,x,U,V,by omega,by omega⟩).mono fun e W' ⟨he,D⟩=>?_
  subst he;exact⟨_,z,_,_,_,[],_,[],a0,trodAll_mk1 (shut_bool underlying4 _),(trodAll_cons_mk (Below.trod xr (by kernel_rfl) (of_decide_eq_true (by kernel_rfl)) A D a2) trodAll_mk0),z,D.frame _,fun h=>by cases h⟩
theorem iW:Rows.NamesScopeSaid:=
  OpenClaim.holds_of_wide 6 f6 z z z z z z z ⟨z,z,z,z,z⟩ z z z z z (by kernel_rfl) func6 (by kernel_rfl)
    (of_decide_eq_true (by kernel_rfl)) (by unfold Func.isWrapper;first| (rw[aD (by decide +kernel)];kernel_rfl)| (rw[am (by decide +kernel)];exact⟨z,z⟩))
    (fun os g H enc _=>ix os g H enc)
theorem namesScope_card_holds:Rows.NamesScopeCardSaid:=
  Claim7.holds_tied_plain_at .later [] [.data,.data,.data,.sentinel,.sentinel,.data,.data] true (true,"07cccc501baab37feab103e83d956d2e49721dd285e105abfde573ab1a2e57be") true
    iW (fun _ h=>by cases h) (by kernel_rfl) (fun _ h=>by cases h) namesScope_row_tie z ⟨z,z⟩ (by kernel_rfl) z
    (fun f fn A C=>by
      obtain rfl:f=6:=Option.some.inj ((show prog.funcNamed "warp/warplaw03.NamesScope"=some 6 by kernel_rfl).symm.trans A)|>.symm;obtain rfl:fn=f6:=(Option.some.inj (func6.symm.trans C)).symm;exact⟨by kernel_rfl,fun j t g=>by
        rw[Tryz.params6]at g;have D:t∈ [52]:=by simpa using Array.mem_of_getElem? g
        have w:(([52]:List TypeId).all fun u=>!prog.wantsStandIn u)=true:=by kernel_rfl
        exact(show prog.wantsStandIn t=false by simpa using List.all_eq_true.1 w t D)⟩)
    (by kernel_rfl)
end Go.Proofs.YtgppcdfgdaggjaaGreatDoor
