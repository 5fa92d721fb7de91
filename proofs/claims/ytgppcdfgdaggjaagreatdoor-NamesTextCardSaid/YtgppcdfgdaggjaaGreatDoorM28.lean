/- NamesText: its card holds, at every input. No condition. -/
import Derived.Test.YtgppcdfgdaggjaaGreatDoorM27
import Derived.Test.YtgppcdfgdaggjaaGreatDoorTie
import Derived.Test.YtgppcdfgdaggjaaGreatDoorCards
import Derived.SevenTiedAt
set_option maxRecDepth 100000
namespace Go.Proofs.YtgppcdfgdaggjaaGreatDoor
open Go.ChangeShapes Go.WideShapes Go.ChangeAt Go.RowKit Go.ChangeMaps Go.Proofs.Tryz
theorem jc(os:Os)(a0:os.Started)(H:Type)(enc:TypeId×Value->H):
    ReturnsInHanded {} Tryz.checked os 3 .any (fun w args=> (Rows.namesTextSpec.pre enc prog f3 [] false w args/\laidMetH prog fA w)/\sizedMet enc prog f3 (OpenSpec.ofChange Rows.namesTextSpec) false w args)
      (Rows.namesTextSpec.post enc prog f3 false true false false):=by
  refine returnsInHanded_of_change_and (C:=Tryz.checked) (X:=fun w _=>laidMetH prog fA w) (fun _ _ _ Y h=>h.of_heap Y) own a0 (by kernel_rfl) func3
    (ChangeSpec.witness_shaped (enc:=enc) (C:=Tryz.checked) (os:=os) (X:=fun w _=>laidMetH prog fA w) false (World.laidAll prog os fA) #[.string ⟨#[]⟩] 8 (World.laidAll_os _ _ _) (World.shaped_of_ZipB (by kernel_rfl) (by kernel_rfl)) (by kernel_rfl) (by kernel_rfl) (by kernel_rfl)
      (by rw[MakeChecks.laidMetH_plain _ _ _ (by kernel_rfl)];exact laidMet_laidAll _ (by kernel_rfl) (by kernel_rfl))) ?_
  intro W J args M gs a1 F D _ _ R _;have E:∀ (j:Nat) t v,f3.params[j]? =some t->args[j]? =some v->Value.okWide prog W .any J t v:=F;have U:=D;obtain⟨p,q,A,S,rfl,_,_⟩:=D;have g:DataW.TrodAll enc prog W 0 (fun _=>true) true f3.params.toList args.toList M p:=A;rw[Tryz.params3]at g E;obtain⟨G,a4,d0,a2,p0,q0,a3,rfl,rfl,N,r0⟩:=trodAll_cons g;obtain⟨rfl,rfl,rfl⟩:=trodAll_nil r0;obtain rfl:args= #[G]:=by cases args;simp_all
  obtain⟨rfl,rfl⟩:=trodVars_none S;obtain⟨Z,rfl,rfl,rfl,z0⟩:=open_string underlying9 (E 0 9 G z z) N;have Q:=rU R;clear A F;refine(nJ Z W Q).mono fun e W' ⟨V,K⟩=>?_;subst V;exact⟨_,z,_,_,_,[],_,[],U,trodAll_mk1 (shut_bool underlying4 _),(trodAll_cons_mk (shut_string underlying9 z0) trodAll_mk0),z,K.frame _,fun h=>by cases h⟩
theorem js:Rows.NamesTextSaid:=
  OpenClaim.holds_of_wide 3 f3 z z z z z z z ⟨z,z,z,z,z⟩ z z z z z (by kernel_rfl) func3 (by kernel_rfl)
    (of_decide_eq_true (by kernel_rfl)) (by unfold Func.isWrapper;first| (rw[aD (by decide +kernel)];kernel_rfl)| (rw[am (by decide +kernel)];exact⟨z,z⟩))
    (fun os g H enc _=>jc os g H enc)
theorem namesText_card_holds:Rows.NamesTextCardSaid:=
  Claim7.holds_tied_plain_at .later [] [.data,.data,.data,.sentinel,.sentinel,.data,.data] true (true,"07cccc501baab37feab103e83d956d2e49721dd285e105abfde573ab1a2e57be") true
    js (fun _ h=>by cases h) (by kernel_rfl) (fun _ h=>by cases h) namesText_row_tie z ⟨z,z⟩ (by kernel_rfl) z
    (fun f fn A C=>by
      obtain rfl:f=3:=Option.some.inj ((show prog.funcNamed "warp/warplaw03.NamesText"=some 3 by kernel_rfl).symm.trans A)|>.symm;obtain rfl:fn=f3:=(Option.some.inj (func3.symm.trans C)).symm;exact⟨by kernel_rfl,fun j t g=>by
        rw[Tryz.params3]at g;have D:t∈ [9]:=by simpa using Array.mem_of_getElem? g
        have w:(([9]:List TypeId).all fun u=>!prog.wantsStandIn u)=true:=by kernel_rfl
        exact(show prog.wantsStandIn t=false by simpa using List.all_eq_true.1 w t D)⟩)
    (by kernel_rfl)
end Go.Proofs.YtgppcdfgdaggjaaGreatDoor
