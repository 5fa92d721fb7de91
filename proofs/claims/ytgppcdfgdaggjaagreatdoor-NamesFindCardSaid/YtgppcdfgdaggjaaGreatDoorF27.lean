/- NamesFind: its card holds, at every input. No condition. -/
import Derived.Test.YtgppcdfgdaggjaaGreatDoorF26
import Derived.Test.YtgppcdfgdaggjaaGreatDoorTie
import Derived.Test.YtgppcdfgdaggjaaGreatDoorCards
import Derived.SevenTiedAt
set_option maxRecDepth 100000
namespace Go.Proofs.YtgppcdfgdaggjaaGreatDoor
open Go.ChangeShapes Go.WideShapes Go.ChangeAt Go.RowKit Go.ChangeMaps Go.Proofs.Tryz
theorem iR(os:Os)(a4:os.Started)(H:Type)(enc:TypeId×Value->H):
    ReturnsInHanded {} Tryz.checked os 4 .any (fun w args=> (Rows.namesFindSpec.pre enc prog f4 [] false w args/\laidMetH prog fA w)/\sizedMet enc prog f4 (OpenSpec.ofChange Rows.namesFindSpec) false w args)
      (Rows.namesFindSpec.post enc prog f4 false true false false):=by
  refine returnsInHanded_of_change_and (C:=Tryz.checked) (X:=fun w _=>laidMetH prog fA w) (fun _ _ _ hh h=>h.of_heap hh) own a4 (by kernel_rfl) func4
    (ChangeSpec.witness_shaped (enc:=enc) (C:=Tryz.checked) (os:=os) (X:=fun w _=>laidMetH prog fA w) false (World.laidAll prog os fA) #[.string ⟨#[]⟩,.string ⟨#[]⟩,.int .i64 0] 8 (World.laidAll_os _ _ _) (World.shaped_of_ZipB (by kernel_rfl) (by kernel_rfl)) (by kernel_rfl) (by kernel_rfl) (by kernel_rfl)
      (by rw[MakeChecks.laidMetH_plain _ _ _ (by kernel_rfl)];exact laidMet_laidAll _ (by kernel_rfl) (by kernel_rfl))) ?_
  intro W N args R gs a5 F E _ _ Z _;have g:∀ (j:Nat) t v,f4.params[j]? =some t->args[j]? =some v->Value.okWide prog W .any N t v:=F;have a0:=E;obtain⟨p,q,D,hV,rfl,_,_⟩:=E;have A:DataW.TrodAll enc prog W 0 (fun _=>true) true f4.params.toList args.toList R p:=D;rw[Tryz.params4]at A g;obtain⟨G,a9,d0,a6,p0,q0,a8,rfl,rfl,S,r0⟩:=trodAll_cons A;obtain⟨J,b4,d1,uE,p1,q1,rfl,rfl,rfl,U,r1⟩:=trodAll_cons r0;obtain⟨K,b5,d2,a7,p2,q2,rfl,rfl,rfl,V,r2⟩:=trodAll_cons r1;obtain⟨rfl,rfl,rfl⟩:=trodAll_nil r2;obtain rfl:args= #[G,J,K]:=by cases args;simp_all
  obtain⟨rfl,rfl⟩:=trodVars_none hV;obtain⟨a1,rfl,rfl,rfl,z0⟩:=open_string underlying9 (g 0 9 G z z) S;obtain⟨a3,rfl,rfl,rfl,z1⟩:=open_string underlying9 (g 1 9 J z z) U;obtain⟨M,rfl,rfl,rfl,w2⟩:=open_int underlying3 (g 2 3 K z z) V;have Y:=rU Z;clear D F;refine(tE a1 a3 M W Y).mono fun e W' ⟨he,Q⟩=>?_;subst he;exact⟨_,z,_,_,_,[],_,[],a0,trodAll_mk1 (shut_bool underlying4 _),(trodAll_cons_mk (shut_string underlying9 z0) (trodAll_cons_mk (shut_string underlying9 z1) (trodAll_cons_mk (shut_int underlying3 w2) trodAll_mk0))),z,Q.frame _,fun h=>by cases h⟩
theorem jt:Rows.NamesFindSaid:=
  OpenClaim.holds_of_wide 4 f4 z z z z z z z ⟨z,z,z,z,z⟩ z z z z z (by kernel_rfl) func4 (by kernel_rfl)
    (of_decide_eq_true (by kernel_rfl)) (by unfold Func.isWrapper;first| (rw[aD (by decide +kernel)];kernel_rfl)| (rw[am (by decide +kernel)];exact⟨z,z⟩))
    (fun os g H enc _=>iR os g H enc)
theorem namesFind_card_holds:Rows.NamesFindCardSaid:=
  Claim7.holds_tied_plain_at .later [] [.data,.data,.data,.sentinel,.sentinel,.data,.data] true (true,"07cccc501baab37feab103e83d956d2e49721dd285e105abfde573ab1a2e57be") true
    jt (fun _ h=>by cases h) (by kernel_rfl) (fun _ h=>by cases h) namesFind_row_tie z ⟨z,z⟩ (by kernel_rfl) z
    (fun f fn A C=>by
      obtain rfl:f=4:=Option.some.inj ((show prog.funcNamed "warp/warplaw03.NamesFind"=some 4 by kernel_rfl).symm.trans A)|>.symm;obtain rfl:fn=f4:=(Option.some.inj (func4.symm.trans C)).symm;exact⟨by kernel_rfl,fun j t g=>by
        rw[Tryz.params4]at g;have D:t∈ [9,9,3]:=by simpa using Array.mem_of_getElem? g
        have w:(([9,9,3]:List TypeId).all fun u=>!prog.wantsStandIn u)=true:=by kernel_rfl
        exact(show prog.wantsStandIn t=false by simpa using List.all_eq_true.1 w t D)⟩)
    (by kernel_rfl)
end Go.Proofs.YtgppcdfgdaggjaaGreatDoor
