/- NamesPlaces: its card holds, at every input. No condition. -/
import Derived.Test.YtgppcdfgdaggjaaGreatDoorR47
import Derived.Test.YtgppcdfgdaggjaaGreatDoorTie
import Derived.Test.YtgppcdfgdaggjaaGreatDoorCards
import Derived.SevenTiedAt
set_option maxRecDepth 100000
namespace Go.Proofs.YtgppcdfgdaggjaaGreatDoor
open Go.ChangeShapes Go.WideShapes Go.ChangeAt Go.RowKit Go.ChangeMaps
theorem namesPlaces_lifted(os:Os)(started:os.Started)(H:Type)(enc:TypeId×Value->H):
    ReturnsInHanded {} Tryz.checked os 8 .any (fun w args=> (Rows.namesPlacesSpec.pre enc Tryz.prog Tryz.f8 [] false w args/\laidMetH Tryz.prog laid7 w)/\sizedMet enc Tryz.prog Tryz.f8 (OpenSpec.ofChange Rows.namesPlacesSpec) false w args)
      (Rows.namesPlacesSpec.post enc Tryz.prog Tryz.f8 false true false false):=by
  refine returnsInHanded_of_change_and (C:=Tryz.checked) (X:=fun w _=>laidMetH Tryz.prog laid7 w) (fun _ _ _ hh h=>h.of_heap hh) own started (by kernel_rfl) Tryz.func8
    (ChangeSpec.witness_shaped (enc:=enc) (C:=Tryz.checked) (os:=os) (X:=fun w _=>laidMetH Tryz.prog laid7 w) false (World.laidAll Tryz.prog os laid7) #[.string ⟨#[]⟩] 8 (World.laidAll_os _ _ _) (World.shaped_of_ZipB (by kernel_rfl) (by kernel_rfl)) (by kernel_rfl) (by kernel_rfl) (by kernel_rfl)
      (by rw[MakeChecks.laidMetH_plain _ _ _ (by kernel_rfl)];exact laidMet_laidAll _ (by kernel_rfl) (by kernel_rfl))) ?_
  intro W base args ds gs before hval0 hW _ _ hL _;have hval:∀ (j:Nat) t v,Tryz.f8.params[j]? =some t->args[j]? =some v->Value.okWide Tryz.prog W .any base t v:=hval0;have hW':=hW;obtain⟨p,q,hA0,hV,rfl,_,_⟩:=hW;have hA:DataW.TrodAll enc Tryz.prog W 0 (fun _=>true) true Tryz.f8.params.toList args.toList ds p:=hA0;rw[Tryz.params8]at hA hval;obtain⟨v0,vs0,d0,ds0,p0,q0,hargs,rfl,rfl,h0,r0⟩:=trodAll_cons hA;obtain⟨rfl,rfl,rfl⟩:=trodAll_nil r0;obtain rfl:args= #[v0]:=by cases args;simp_all
  obtain⟨rfl,rfl⟩:=trodVars_none hV;obtain⟨s0,rfl,rfl,rfl,z0⟩:=open_string Tryz.underlying9 (hval 0 9 v0 z z) h0;have hE:=wm_of hL;clear hA0 hval0;refine(plc_law2 s0 W hE).mono fun e W' ⟨he,bel⟩=>?_;subst he;exact⟨_,z,_,_,_,[],_,[],hW',trodAll_mk1 (shut_bool Tryz.underlying4 _),(trodAll_cons_mk (shut_string Tryz.underlying9 z0) trodAll_mk0),z,bel.frame _,fun h=>by cases h⟩
theorem namesPlaces_holds:Rows.NamesPlacesSaid:=
  OpenClaim.holds_of_wide 8 Tryz.f8 z z z z z z z ⟨z,z,z,z,z⟩ z z z z z (by kernel_rfl) Tryz.func8 (by kernel_rfl)
    (of_decide_eq_true (by kernel_rfl)) (by unfold Func.isWrapper;first| (rw[if_pos (by decide +kernel)];kernel_rfl)| (rw[if_neg (by decide +kernel)];exact⟨z,z⟩))
    (fun os started H enc _=>namesPlaces_lifted os started H enc)
theorem namesPlaces_card_holds:Rows.NamesPlacesCardSaid:=
  Claim7.holds_tied_plain_at .later [] [.data,.data,.data,.sentinel,.sentinel,.data,.data] true (true,"07cccc501baab37feab103e83d956d2e49721dd285e105abfde573ab1a2e57be") true
    namesPlaces_holds (fun _ h=>by cases h) (by kernel_rfl) (fun _ h=>by cases h) namesPlaces_row_tie z ⟨z,z⟩ (by kernel_rfl) z
    (fun f fn hf hfn=>by
      obtain rfl:f=8:=Option.some.inj ((show Tryz.prog.funcNamed "warp/warplaw03.NamesPlaces"=some 8 by kernel_rfl).symm.trans hf)|>.symm;obtain rfl:fn=Tryz.f8:=(Option.some.inj (Tryz.func8.symm.trans hfn)).symm;exact⟨by kernel_rfl,fun j t ht=>by
        rw[Tryz.params8]at ht;have hm:t∈ [9]:=by simpa using Array.mem_of_getElem? ht
        have hall:(([9]:List TypeId).all fun u=>!Tryz.prog.wantsStandIn u)=true:=by kernel_rfl
        exact(show Tryz.prog.wantsStandIn t=false by simpa using List.all_eq_true.1 hall t hm)⟩)
    (by kernel_rfl)
end Go.Proofs.YtgppcdfgdaggjaaGreatDoor
